/- The walk of the law BitsParts where the first bits are in order, and the law whole. -/
import Derived.Test.YtnbdmmepdmmbmaaBitsParts
namespace Go.Proofs.Ytnbdmmepdmmbmaa
open Go.RowKit
set_option linter.unusedVariables false
set_option linter.unusedSimpArgs false
/-- The three ways of Align. -/
def AlF (D : List UInt8) (n : Nat) (tt f : Int) (k : List Bool) : Prop := ((tt < 1 ∨ 64000 < tt) ∧ f = 1) ∨ ∃ T : Nat, tt = T ∧ 1 ≤ T ∧ T ≤ 64000 ∧ ((64000 < n + padN n T ∧ f = 6) ∨ (n + padN n T ≤ 64000 ∧ f = 0 ∧ k = alignL D n T))
theorem align_any (D : List UInt8) (n : Nat) (tt : Int) (h : chk D n = 0) : ∃ f k, AlignR D n tt f k ∧ AlF D n tt f k := by
  by_cases hb : tt < 1 ∨ 64000 < tt
  · exact ⟨1, [], fun v w hv => (align_arg D n tt v w hv h hb).mono (PutG.of_zeroed (by decide)), .inl ⟨hb, rfl⟩⟩
  · obtain ⟨T, rfl⟩ : ∃ T : Nat, tt = T := ⟨tt.toNat, by omega⟩
    by_cases hf : 64000 < n + padN n T
    · exact ⟨6, [], fun v w hv => (align_full D n T v w hv h (by omega) hf).mono (PutG.of_zeroed (by decide)), .inr ⟨T, rfl, by omega, by omega, .inl ⟨hf, rfl⟩⟩⟩
    · exact ⟨0, alignL D n T, fun v w hv => (align_ok D n T v w hv h (by omega) (by omega)).mono (PutG.of_ok (by simp [alignL, unp_length]; omega)), .inr ⟨T, rfl, by omega, by omega, .inr ⟨by omega, rfl, rfl⟩⟩⟩
def CuF (D : List UInt8) (n : Nat) (a b f : Int) (k : List Bool) : Prop := ((a < 0 ∨ b < a ∨ (n : Int) < b) ∧ f = 11) ∨ ∃ F G : Nat, a = F ∧ b = G ∧ F ≤ G ∧ G ≤ n ∧ f = 0 ∧ k = cutL D F G
theorem cut_any (D : List UInt8) (n : Nat) (a b : Int) (h : chk D n = 0) (hn : n ≤ 64000) : ∃ f k, CutR D n a b f k ∧ CuF D n a b f k := by
  by_cases hb : a < 0 ∨ b < a ∨ (n : Int) < b
  · exact ⟨11, [], fun v w hv => (cut_range D n a b v w hv h hb).mono (PutG.of_zeroed (by decide)), .inl ⟨hb, rfl⟩⟩
  · obtain ⟨F, rfl⟩ : ∃ F : Nat, a = F := ⟨a.toNat, by omega⟩
    obtain ⟨G, rfl⟩ : ∃ G : Nat, b = G := ⟨b.toNat, by omega⟩
    exact ⟨0, cutL D F G, fun v w hv => (cut_ok D n F G v w hv h (by omega) (by omega)).mono (PutG.of_ok (by rw [cutL_len]; omega)), .inr ⟨F, G, rfl, rfl, by omega, by omega, rfl, rfl⟩⟩
def CaF (D : List UInt8) (n : Nat) (E : List UInt8) (M f : Int) (k : List Bool) : Prop := (chk E M ≠ 0 ∧ f = chk E M) ∨ (chk E M = 0 ∧ ∃ m : Nat, M = m ∧ ((64000 < n + m ∧ f = 6) ∨ (n + m ≤ 64000 ∧ f = 0 ∧ k = catL D n E m)))
theorem cat_any (D : List UInt8) (n : Nat) (E : List UInt8) (M : Int) (h : chk D n = 0) : ∃ f k, CatR D n E M f k ∧ CaF D n E M f k := by
  by_cases hE : chk E M = 0
  · obtain ⟨m, rfl⟩ : ∃ m : Nat, M = m := ⟨M.toNat, by have := chk_bd hE; omega⟩
    by_cases hf : 64000 < n + m
    · exact ⟨6, [], fun v u w hv hu => (cat_full D n E m v u w hv hu h hE hf).mono (PutG.of_zeroed (by decide)), .inr ⟨hE, m, rfl, .inl ⟨hf, rfl⟩⟩⟩
    · exact ⟨0, catL D n E m, fun v u w hv hu => (cat_ok D n E m v u w hv hu h hE (by omega)).mono (PutG.of_ok (by simp [catL, unp_length]; omega)), .inr ⟨hE, m, rfl, .inr ⟨by omega, rfl, rfl⟩⟩⟩
  · exact ⟨chk E M, [], fun v u w hv hu => (cat_b D n E M v u w hv hu h hE).mono (PutG.of_zeroed hE), .inl ⟨hE, rfl⟩⟩
theorem rep1 (p : Nat) : Lib.repeatL (⟨#[48]⟩ : ByteArray).data.toList p = List.replicate p 48 := by
  induction p with
  | zero => rfl
  | succ p ih => show [48] ++ Lib.repeatL _ p = _; rw [ih]; rfl
theorem cut_str (D : List UInt8) (n F G : Nat) (S : ByteArray) (hS : S.data.toList = digs (unp D n)) (h1 : F ≤ G) (h2 : G ≤ n) : (S.extract F G).data.toList = digs (cutL D F G) := by
  rw [ByteArray.data_extract, Array.toList_extract, hS]
  apply List.ext_getElem
  · simp [digs, cutL, unp]; omega
  · intro i h3 h4
    simp [digs, cutL, unp]
theorem str_ext {S T : ByteArray} (h : S.data.toList = T.data.toList) : S = T := by
  cases S; cases T; congr 1; exact Array.toList_inj.1 h
set_option maxRecDepth 100000 in
set_option maxHeartbeats 4000000 in
theorem parts_ok (D E : List UInt8) (n : Nat) (M tt a b : Int) (v u : Value) (w : World) (hv : RB w v D) (hu : RB w u E) (hl2 : E.length ≤ 140737488351232) (h : chk D n = 0) (hD : D.length ≤ 140737488351232) :
    Calls Try.prog 3 #[.agg #[v, .int .i64 n], .agg #[u, .int .i64 M], .int .i64 tt, .int .i64 a, .int .i64 b] w (Tr w) := by
  obtain ⟨A, c, rfl⟩ := hv.len
  obtain ⟨B, d, rfl⟩ := hu.len
  obtain ⟨l0, l1, l2, _⟩ := chk_bd h
  obtain ⟨f1, r1, HAl, hf1⟩ := align_any D n tt h
  obtain ⟨f2, r2, HCu, hf2⟩ := cut_any D n a b h (by omega)
  obtain ⟨f3, r3, HCa, hf3⟩ := cat_any D n E M h
  have HV := Lib.hid hv
  have HU := Lib.hid hu
  have HH := Lib.hid h
  have HAl := Lib.hid HAl
  have HCu := Lib.hid HCu
  have HCa := Lib.hid HCa
  have HF1 := Lib.hid hf1
  have HF2 := Lib.hid hf2
  have HF3 := Lib.hid hf3
  have H0 := Lib.hid (LS.start w (.slice A D.length c) n (.slice B E.length d) M)
  clear hv hu h hf1 hf2 hf3
  go_enter Try.func3, Try.ntmps3
  go_wp2_with fail
  go_at_call 6
  refine (digits_ok D n _ _ (HV.out.below H0.out.bel) HH.out).mono ?_
  rintro e w1 ⟨S, rfl, hS, hbel⟩
  have hsz : S.size = n := by rw [size_of_list hS, digs_length, unp_length]
  have HSS := Lib.hid hS
  have HS := Lib.hid (H0.out.call hbel)
  clear hbel hS
  have k0 := HS.out.a0; have k1 := HS.out.a1; have k2 := HS.out.b0; have k3 := HS.out.b1
  go_wp2_with fail
  go_at_call 6
  refine (digits_gen E M _ _ (HU.out.below HS.out.bel) hl2).mono ?_
  rintro e w2 ⟨T, rfl, hT1, hT, hbel⟩
  have HT := Lib.hid hT1
  have HS := Lib.hid (HS.out.call hbel)
  clear hbel hT1
  have k0 := HS.out.a0; have k1 := HS.out.a1; have k2 := HS.out.b0; have k3 := HS.out.b1
  go_wp2_with fail
  go_at_call 7
  refine (strung_any _).mono ?_
  rintro e w3 ⟨rfl, hbel⟩
  have HS := Lib.hid (HS.out.call hbel)
  clear hbel
  have k0 := HS.out.a0; have k1 := HS.out.a1; have k2 := HS.out.b0; have k3 := HS.out.b1
  go_wp2_with fail
  go_at_call 8
  refine (HAl.out _ _ (HV.out.below HS.out.bel)).mono ?_
  rintro e w4 ⟨A1, n1, c1, m1, rfl, hO, hbel, _⟩
  have HO := Lib.hid (hO.below (blw_alloc (Below.refl _ _) (.cells #[.slice A1 n1 c1, .int .i64 m1] 24)))
  have HS := Lib.hid (HS.out.call hbel)
  clear hbel hO
  have HS := Lib.hid (LX.start HS.out (.slice A1 n1 c1) (.int .i64 m1))
  go_upto_region 7 with fail
  obtain ⟨xb, hxbe⟩ : ∃ xb, xb = w4.heap.size := ⟨_, rfl⟩
  rw [← hxbe] at HS
  rw [← hxbe]
  clear hxbe k0 k1 k2 k3
  generalize hW : w4.alloc (.cells #[.slice A1 n1 c1, .int .i64 m1] 24) = W5 at HO HS
  clear hW
  go_cut [49] (fun s49 wx => s49 = .bool (decide (tt < 1 ∨ 64000 < tt)) ∧ wx = W5)
  case first =>
    go_wp2
    all_goals
      go_meet
      refine ⟨?_, rfl⟩
      simp
      try omega
  case rest =>
  obtain ⟨rfl, hwc⟩ := hcut
  subst wc
  go_upto_if 49 with fail
  go_cut [18] (fun s18 wx => s18 = .int .i64 (if tt < 1 ∨ 64000 < tt then 1 else 0) ∧ wx = W5)
  case first =>
    go_wp2
    all_goals
      go_meet
      refine ⟨?_, rfl⟩
      simp [*]
  case rest =>
  obtain ⟨rfl, hwc⟩ := hcut
  subst wc
  obtain ⟨g1, hg1⟩ : ∃ g1 : Int, g1 = if tt < 1 ∨ 64000 < tt then 1 else 0 := ⟨_, rfl⟩
  rw [← hg1]
  have hg0 : (g1 = 0 ∧ ¬ (tt < 1 ∨ 64000 < tt)) ∨ (g1 = 1 ∧ (tt < 1 ∨ 64000 < tt)) := by
    by_cases hq : tt < 1 ∨ 64000 < tt
    · right; rw [hg1, if_pos hq]; exact ⟨rfl, hq⟩
    · left; rw [hg1, if_neg hq]; exact ⟨rfl, hq⟩
  clear hg1
  go_upto_if 51 with fail
  go_cut [17, 18] (fun s17 s18 wx => ∃ W : ByteArray, s17 = .string W ∧ s18 = .int .i64 f1 ∧ (f1 = 0 → W.data.toList = digs r1) ∧ LX w (.slice A D.length c) n (.slice B E.length d) M xb (.slice A1 n1 c1) (.int .i64 m1) wx ∧ OutOk f1 r1 (.slice A1 n1 c1) m1 wx)
  case first =>
    rcases HF1.out with ⟨hb, rfl⟩ | ⟨N, rfl, hN1, hN2, hw⟩
    · obtain ⟨rfl, -⟩ : g1 = 1 ∧ (tt < 1 ∨ 64000 < tt) := by omega
      go_wp2_with fail
      go_meet
      exact ⟨_, rfl, rfl, fun q => absurd q (by decide), HS.out, HO.out⟩
    · obtain ⟨rfl, -⟩ : g1 = 0 ∧ ¬ ((N : Int) < 1 ∨ 64000 < (N : Int)) := by omega
      have q2 : n % N < N := Nat.mod_lt _ (by omega)
      have q5 : padN n N < N := by unfold padN; exact Nat.mod_lt _ (by omega)
      have q8 : -((n : Int) % (N : Int)) % (N : Int) = (padN n N : Int) := by
        unfold padN
        rw [Int.natCast_emod, Int.ofNat_sub (by omega), Int.natCast_emod]
        simp
      have hrep := fun W => Try.strings_Repeat ⟨#[48]⟩ (padN n N) W (by omega) (by show 1 * _ ≤ _; omega)
      unfold alignL at hw
      generalize padN n N = p at *
      go_wp2_with fail
      go_at_call 9
      refine (hrep _).mono ?_
      rintro e w5 ⟨rfl, hbel⟩
      have HO1 := Lib.hid (HO.out.below hbel)
      have HS1 := Lib.hid (HS.out.call hbel)
      have hrs : (Lib.repeatL (⟨#[48]⟩ : ByteArray).data.toList p) = List.replicate p 48 := rep1 p
      rw [hrs]
      clear hbel hrs hrep q8
      have hps : (⟨(List.replicate p (48 : UInt8)).toArray⟩ : ByteArray).size = p := by simp [ByteArray.size]
      have hcc : (S ++ (⟨(List.replicate p (48 : UInt8)).toArray⟩ : ByteArray)).size = n + p := by rw [ByteArray.size_append, hps, hsz]
      go_wp2_with fail
      all_goals go_meet
      · obtain ⟨-, rfl⟩ : 64000 < n + p ∧ f1 = 6 := by omega
        exact ⟨_, rfl, rfl, fun q => absurd q (by decide), HS1.out, HO1.out⟩
      · obtain ⟨-, rfl, rfl⟩ : n + p ≤ 64000 ∧ f1 = 0 ∧ r1 = unp D n ++ List.replicate p false := by
          rcases hw with h | h
          · omega
          · exact h
        exact ⟨_, rfl, rfl, fun _ => by rw [ByteArray.data_append, Array.toList_append, HSS.out]; simp [digs], HS1.out, HO1.out⟩
  case rest =>
  clear HS HO
  obtain ⟨W1, rfl, rfl, hW1, HS, HO⟩ := hcut
  have HS := Lib.hid HS
  have HO := Lib.hid HO
  have HW := Lib.hid hW1
  clear hW1 hg0
  have HL := Lib.hid HS.out.ls; have k0 := HL.out.a0; have k1 := HL.out.a1; have k2 := HL.out.b0; have k3 := HL.out.b1; have k4 := HS.out.x0; have k5 := HS.out.x1
  go_wp2_with fail
  go_at_call 10
  refine (holds_gen HO.out rfl _ HW.out).mono ?_
  rintro e w5 ⟨rfl, hbel⟩
  have HS := Lib.hid (HS.out.call hbel)
  clear hbel HO HW k0 k1 k2 k3 k4 k5
  have HL := Lib.hid HS.out.ls; have k0 := HL.out.a0; have k1 := HL.out.a1; have k2 := HL.out.b0; have k3 := HL.out.b1; have k4 := HS.out.x0; have k5 := HS.out.x1; have k6 := HS.out.f0; have k7 := HS.out.f1; have hxb := HS.out.lt
  go_wp2_with fail
  go_at_call 11
  refine (HCu.out _ _ (HV.out.below HS.out.ls.bel)).mono ?_
  rintro e w6 ⟨A1, n1, c1, m1, rfl, hO, hbel, hst⟩
  have HO := Lib.hid (hst xb 0 xb 1 (.slice A1 n1 c1) (.int .i64 m1) hxb hxb)
  have HS := Lib.hid (HS.out.call hbel)
  clear hbel hO hst k0 k1 k2 k3 k4 k5 k6 k7 hxb
  have HL := Lib.hid HS.out.ls; have k0 := HL.out.a0; have k1 := HL.out.a1; have k2 := HL.out.b0; have k3 := HL.out.b1; have k4 := HS.out.x0; have k5 := HS.out.x1; have k6 := HS.out.f0; have k7 := HS.out.f1; have hxb := HS.out.lt
  have HS := Lib.hid (HS.out.set (.slice A1 n1 c1) (.int .i64 m1))
  go_upto_if 81 with fail
  clear k0 k1 k2 k3 k4 k5 k6 k7 hxb
  generalize (w6.setCell ⟨xb, 0, none⟩ (.slice A1 n1 c1)).setCell ⟨xb, 1, none⟩ (.int .i64 m1) = W6 at HO HS
  go_cut [17, 18] (fun s17 s18 wx => ∃ W : ByteArray, s17 = .string W ∧ s18 = .int .i64 f2 ∧ (f2 = 0 → W.data.toList = digs r2) ∧ wx = W6)
  case first =>
    have q1 : (S.size : Int) = n := by rw [hsz]
    rcases HF2.out with ⟨hb, rfl⟩ | ⟨F, G, rfl, rfl, h1, h2, rfl, rfl⟩
    · go_wp2_with fail
      all_goals (go_meet; exact ⟨_, rfl, rfl, fun q => absurd q (by decide), rfl⟩)
    · go_wp2_with fail
      all_goals (go_meet; exact ⟨_, rfl, rfl, fun _ => cut_str D n F G S HSS.out h1 h2, rfl⟩)
  case rest =>
  obtain ⟨W2, rfl, rfl, hW2, hwc⟩ := hcut
  subst wc
  have HW := Lib.hid hW2
  clear hW2
  have HL := Lib.hid HS.out.ls; have k0 := HL.out.a0; have k1 := HL.out.a1; have k2 := HL.out.b0; have k3 := HL.out.b1; have k4 := HS.out.x0; have k5 := HS.out.x1
  go_wp2_with fail
  go_at_call 10
  refine (holds_gen HO.out rfl _ HW.out).mono ?_
  rintro e w7 ⟨rfl, hbel⟩
  have HS := Lib.hid (HS.out.call hbel)
  clear hbel HO HW k0 k1 k2 k3 k4 k5
  have HL := Lib.hid HS.out.ls; have k0 := HL.out.a0; have k1 := HL.out.a1; have k2 := HL.out.b0; have k3 := HL.out.b1; have k4 := HS.out.x0; have k5 := HS.out.x1; have k6 := HS.out.f0; have k7 := HS.out.f1; have hxb := HS.out.lt
  go_wp2_with fail
  go_at_call 12
  refine (HCa.out _ _ _ (HV.out.below HS.out.ls.bel) (HU.out.below HS.out.ls.bel)).mono ?_
  rintro e w8 ⟨A1, n1, c1, m1, rfl, hO, hbel, hst⟩
  have HO := Lib.hid (hst xb 0 xb 1 (.slice A1 n1 c1) (.int .i64 m1) hxb hxb)
  have HS := Lib.hid (HS.out.call hbel)
  clear hbel hO hst k0 k1 k2 k3 k4 k5 k6 k7 hxb
  have HL := Lib.hid HS.out.ls; have k0 := HL.out.a0; have k1 := HL.out.a1; have k2 := HL.out.b0; have k3 := HL.out.b1; have k4 := HS.out.x0; have k5 := HS.out.x1; have k6 := HS.out.f0; have k7 := HS.out.f1; have hxb := HS.out.lt
  have HS := Lib.hid (HS.out.set (.slice A1 n1 c1) (.int .i64 m1))
  go_upto_region 27 with fail
  clear k0 k1 k2 k3 k4 k5 k6 k7 hxb
  generalize (w8.setCell ⟨xb, 0, none⟩ (.slice A1 n1 c1)).setCell ⟨xb, 1, none⟩ (.int .i64 m1) = W8 at HO HS
  obtain ⟨eM, HEM⟩ : ∃ eM : Int, Hid (eM = chk E M) := ⟨_, Lib.hid rfl⟩
  rw [← HEM.out]
  go_cut [124] (fun s124 wx => s124 = .bool (decide (eM = 0 ∧ 64000 < n + T.size)) ∧ wx = W8)
  case first =>
    by_cases hq : eM = 0
    · have q0 : (eM == 0) = true := by simpa using hq
      go_wp2_with fail
      all_goals
        go_meet
        refine ⟨?_, rfl⟩
        simp [hq, hsz]
        try omega
    · have q0 : (eM == 0) = false := by simpa using hq
      go_wp2_with fail
      all_goals
        go_meet
        refine ⟨?_, rfl⟩
        simp [hq]
  case rest =>
  obtain ⟨rfl, hwc⟩ := hcut
  subst wc
  go_upto_if 124 with fail
  go_cut [18] (fun s18 wx => s18 = .int .i64 f3 ∧ wx = W8)
  case first =>
    by_cases hq : eM = 0 ∧ 64000 < n + T.size
    · have q0 := decide_eq_true hq
      have q1 : f3 = 6 := by
        rcases HF3.out with ⟨x1, x2⟩ | ⟨x1, m, rfl, ⟨x2, x3⟩ | ⟨x2, x3, _⟩⟩
        · exact absurd (HEM.out.symm.trans hq.1) x1
        · exact x3
        · have := (HT.out x1).2; omega
      go_wp2_with fail
      all_goals (go_meet; exact ⟨by rw [q1], rfl⟩)
    · have q0 := decide_eq_false hq
      have q1 : f3 = eM := by
        rcases HF3.out with ⟨x1, x2⟩ | ⟨x1, m, rfl, ⟨x2, x3⟩ | ⟨x2, x3, _⟩⟩
        · rw [x2, HEM.out]
        · have := (HT.out x1).2; exact absurd ⟨HEM.out.trans x1, by omega⟩ hq
        · rw [x3, HEM.out, x1]
      go_wp2_with fail
      all_goals (go_meet; exact ⟨by rw [q1], rfl⟩)
  case rest =>
  obtain ⟨rfl, hwc⟩ := hcut
  subst wc
  have HL := Lib.hid HS.out.ls; have k0 := HL.out.a0; have k1 := HL.out.a1; have k2 := HL.out.b0; have k3 := HL.out.b1
  have HST : Hid (f3 = 0 → (S ++ T).data.toList = digs r3) := Lib.hid (by
    intro q
    rcases HF3.out with ⟨x1, x2⟩ | ⟨x1, m, rfl, ⟨x2, x3⟩ | ⟨x2, x3, rfl⟩⟩
    · exact absurd (x2.symm.trans q) x1
    · rw [x3] at q; exact absurd q (by decide)
    · rw [ByteArray.data_append, Array.toList_append, HSS.out, (HT.out x1).1]; simp [digs, catL])
  go_wp2_with fail
  go_at_call 13
  refine (text_ok D n _ _ (HV.out.below HS.out.ls.bel) HH.out).mono ?_
  rintro e w9 ⟨rfl, hbel⟩
  have hS' : (⟨(digs (unp D n)).toArray⟩ : ByteArray) = S := str_ext (by rw [HSS.out])
  rw [hS']
  have HO := Lib.hid (HO.out.below hbel)
  have HS := Lib.hid (HS.out.call hbel)
  clear hbel hS' k0 k1 k2 k3
  have HL := Lib.hid HS.out.ls; have k0 := HL.out.a0; have k1 := HL.out.a1; have k2 := HL.out.b0; have k3 := HL.out.b1
  go_wp2_with fail
  have HZ := Lib.hid (show LXO w (.slice A D.length c) n (.slice B E.length d) M xb (.slice A1 n1 c1) m1 f3 r3 w9 from ⟨HS.out, HO.out⟩)
  clear k0 k1 k2 k3
  have hadd : ¬ (9223372036854775807 < S.size + T.size) := by omega
  clear l0 l1 l2 hsz hT
  by_cases hLM : (n : Int) = M
  · have e1 : ((n : Int) == M) = true := by simpa using hLM
    have e2 : decide ((n : Int) = M) = true := decide_eq_true hLM
    have HX := Lib.hid hLM
    clear hLM
    refine wp_region_held_drew (S := (fun W' => W'.cell? ⟨w.heap.size, 0, none⟩ = some (.slice A D.length c) ∧ W'.cell? ⟨w.heap.size, 1, none⟩ = some (.int .i64 n) ∧ W'.cell? ⟨w.heap.size + 1, 0, none⟩ = some (.slice B E.length d) ∧ W'.cell? ⟨w.heap.size + 1, 1, none⟩ = some (.int .i64 M) ∧ W'.cell? ⟨xb, 0, none⟩ = some (.slice A1 n1 c1) ∧ W'.cell? ⟨xb, 1, none⟩ = some (.int .i64 m1) ∧ LXO w (.slice A D.length c) n (.slice B E.length d) M xb (.slice A1 n1 c1) m1 f3 r3 W')) (by kernel_rfl) (LXO.s (LXO.call HZ.out (blw_drew (Below.refl _ _)))) (fun hHeld => ?_)
    refine takeY (i := 0) (v := ?_) rfl rfl (by kernel_rfl) (by kernel_rfl) (by kernel_rfl) (fun _ _ _ h => h) (by rfl) (fun W hW => ?_) (by assumption) ?_
    rotate_left 1
    · (simp only [List.getElem_toArray, List.getElem_cons_zero, List.getElem_cons_succ]; go_simp; try with_reducible rfl)
    try simp only [Act.put, List.setIfInBounds_toArray, List.set_cons_zero, List.set_cons_succ]
    refine takeY (i := 1) (v := ?_) rfl rfl (by kernel_rfl) (by kernel_rfl) (by kernel_rfl) (fun _ _ _ h => h) (by rfl) (fun W hW => ?_) (by assumption) ?_
    rotate_left 1
    · (simp only [List.getElem_toArray, List.getElem_cons_zero, List.getElem_cons_succ]; go_simp; try with_reducible rfl)
    try simp only [Act.put, List.setIfInBounds_toArray, List.set_cons_zero, List.set_cons_succ]
    refine takeY (i := 2) (v := ?_) rfl rfl (by kernel_rfl) (by kernel_rfl) (by kernel_rfl) (fun _ _ _ h => h) (by rfl) (fun W hW => ?_) (by assumption) ?_
    rotate_left 1
    · (simp only [List.getElem_toArray, List.getElem_cons_zero, List.getElem_cons_succ]; go_simp; try with_reducible rfl)
    try simp only [Act.put, List.setIfInBounds_toArray, List.set_cons_zero, List.set_cons_succ]
    refine takeY (i := 3) (v := ?_) rfl rfl (by kernel_rfl) (by kernel_rfl) (by kernel_rfl) (fun _ _ _ h => h) (by rfl) (fun W hW => ?_) (by assumption) ?_
    rotate_left 1
    · (simp only [List.getElem_toArray, List.getElem_cons_zero, List.getElem_cons_succ]; go_simp; try with_reducible rfl)
    try simp only [Act.put, List.setIfInBounds_toArray, List.set_cons_zero, List.set_cons_succ]
    refine takeY (i := 4) (v := ?_) rfl rfl (by kernel_rfl) (by kernel_rfl) (by kernel_rfl) (fun _ _ _ h => h) (by rfl) (fun W hW => ?_) (by assumption) ?_
    rotate_left 1
    · (simp only [List.getElem_toArray, List.getElem_cons_zero, List.getElem_cons_succ]; go_simp; try with_reducible rfl)
    try simp only [Act.put, List.setIfInBounds_toArray, List.set_cons_zero, List.set_cons_succ]
    refine takeY (i := 5) (v := ?_) rfl rfl (by kernel_rfl) (by kernel_rfl) (by kernel_rfl) (fun _ _ _ h => h) (by rfl) (fun W hW => ?_) (by assumption) ?_
    rotate_left 1
    · (simp only [List.getElem_toArray, List.getElem_cons_zero, List.getElem_cons_succ]; go_simp; try with_reducible rfl)
    try simp only [Act.put, List.setIfInBounds_toArray, List.set_cons_zero, List.set_cons_succ]
    refine wpAnyH_ready (rs := [6]) (by kernel_rfl) (by simp) ?_
    refine AllReadyH.cons rfl (fun K hK => ?_) AllReadyH.nil
    go_simp
    go_at_call 10
    refine (holds_gen (And.right (LXO.of hHeld : LXO w (.slice A D.length c) n (.slice B E.length d) M xb (.slice A1 n1 c1) m1 f3 r3 _)) rfl _ HST.out).mono ?_
    rintro e w10 ⟨rfl, hbel⟩
    have HZ1 := LXO.call (LXO.of hHeld : LXO w (.slice A D.length c) n (.slice B E.length d) M xb (.slice A1 n1 c1) m1 f3 r3 _) hbel
    clear hbel hHeld
    go_wp2_with fail
    refine hK.out _ _ (LXO.s HZ1) (fun hHeld => ?_)
    clear hK K
    try simp only [Act.put, List.setIfInBounds_toArray, List.set_cons_zero, List.set_cons_succ]
    refine takeY (i := 7) (v := ?_) rfl rfl (by kernel_rfl) (by kernel_rfl) (by kernel_rfl) (fun _ _ _ h => h) (by rfl) (fun W hW => ?_) (by assumption) ?_
    rotate_left 1
    · (simp only [List.getElem_toArray, List.getElem_cons_zero, List.getElem_cons_succ]; go_simp; try with_reducible rfl)
    try simp only [Act.put, List.setIfInBounds_toArray, List.set_cons_zero, List.set_cons_succ]
    refine takeY (i := 8) (v := ?_) rfl rfl (by kernel_rfl) (by kernel_rfl) (by kernel_rfl) (fun _ _ _ h => h) (by rfl) (fun W hW => ?_) (by assumption) ?_
    rotate_left 1
    · (simp only [List.getElem_toArray, List.getElem_cons_zero, List.getElem_cons_succ]; go_simp; try with_reducible rfl)
    try simp only [Act.put, List.setIfInBounds_toArray, List.set_cons_zero, List.set_cons_succ]
    refine takeY (i := 9) (v := ?_) rfl rfl (by kernel_rfl) (by kernel_rfl) (by kernel_rfl) (fun _ _ _ h => h) (by rfl) (fun W hW => ?_) (by assumption) ?_
    rotate_left 1
    · (simp only [List.getElem_toArray, List.getElem_cons_zero, List.getElem_cons_succ]; go_simp; try with_reducible rfl)
    try simp only [Act.put, List.setIfInBounds_toArray, List.set_cons_zero, List.set_cons_succ]
    refine takeY (i := 10) (v := ?_) rfl rfl (by kernel_rfl) (by kernel_rfl) (by kernel_rfl) (fun _ _ _ h => h) (by rfl) (fun W hW => ?_) (by assumption) ?_
    rotate_left 1
    · (simp only [List.getElem_toArray, List.getElem_cons_zero, List.getElem_cons_succ]; go_simp; try with_reducible rfl)
    try simp only [Act.put, List.setIfInBounds_toArray, List.set_cons_zero, List.set_cons_succ]
    refine takeY (i := 11) (v := ?_) rfl rfl (by kernel_rfl) (by kernel_rfl) (by kernel_rfl) (fun _ _ _ h => h) (by rfl) (fun W hW => ?_) (by assumption) ?_
    rotate_left 1
    · (simp only [List.getElem_toArray, List.getElem_cons_zero, List.getElem_cons_succ]; go_simp; try with_reducible rfl)
    try simp only [Act.put, List.setIfInBounds_toArray, List.set_cons_zero, List.set_cons_succ]
    refine takeY (i := 12) (v := ?_) rfl rfl (by kernel_rfl) (by kernel_rfl) (by kernel_rfl) (fun _ _ _ h => h) (by rfl) (fun W hW => ?_) (by assumption) ?_
    rotate_left 1
    · (simp only [List.getElem_toArray, List.getElem_cons_zero, List.getElem_cons_succ]; go_simp; try with_reducible rfl)
    try simp only [Act.put, List.setIfInBounds_toArray, List.set_cons_zero, List.set_cons_succ]
    refine takeY (i := 13) (v := ?_) rfl rfl (by kernel_rfl) (by kernel_rfl) (by kernel_rfl) (fun _ _ _ h => h) (by rfl) (fun W hW => ?_) (by assumption) ?_
    rotate_left 1
    · (simp only [List.getElem_toArray, List.getElem_cons_zero, List.getElem_cons_succ]; go_simp; try with_reducible rfl)
    try simp only [Act.put, List.setIfInBounds_toArray, List.set_cons_zero, List.set_cons_succ]
    refine takeY (i := 14) (v := ?_) rfl rfl (by kernel_rfl) (by kernel_rfl) (by kernel_rfl) (fun _ _ _ h => h) (by rfl) (fun W hW => ?_) (by assumption) ?_
    rotate_left 1
    · (simp only [List.getElem_toArray, List.getElem_cons_zero, List.getElem_cons_succ]; go_simp; try with_reducible rfl)
    try simp only [Act.put, List.setIfInBounds_toArray, List.set_cons_zero, List.set_cons_succ]
    refine takeY (i := 15) (v := ?_) rfl rfl (by kernel_rfl) (by kernel_rfl) (by kernel_rfl) (fun _ _ _ h => h) (by rfl) (fun W hW => ?_) (by assumption) ?_
    rotate_left 1
    · (simp only [List.getElem_toArray, List.getElem_cons_zero, List.getElem_cons_succ]; go_simp; try with_reducible rfl)
    try simp only [Act.put, List.setIfInBounds_toArray, List.set_cons_zero, List.set_cons_succ]
    refine takeY (i := 16) (v := ?_) rfl rfl (by kernel_rfl) (by kernel_rfl) (by kernel_rfl) (fun _ _ _ h => h) (by rfl) (fun W hW => ?_) (by assumption) ?_
    rotate_left 1
    · (simp only [List.getElem_toArray, List.getElem_cons_zero, List.getElem_cons_succ]; go_simp; try with_reducible rfl)
    try simp only [Act.put, List.setIfInBounds_toArray, List.set_cons_zero, List.set_cons_succ]
    refine takeY (i := 17) (v := ?_) rfl rfl (by kernel_rfl) (by kernel_rfl) (by kernel_rfl) (fun _ _ _ h => h) (by rfl) (fun W hW => ?_) (by assumption) ?_
    rotate_left 1
    · (simp only [List.getElem_toArray, List.getElem_cons_zero, List.getElem_cons_succ]; go_simp; try with_reducible rfl)
    try simp only [Act.put, List.setIfInBounds_toArray, List.set_cons_zero, List.set_cons_succ]
    refine takeY (i := 18) (v := ?_) rfl rfl (by kernel_rfl) (by kernel_rfl) (by kernel_rfl) (fun _ _ _ h => h) (by rfl) (fun W hW => ?_) (by assumption) ?_
    rotate_left 1
    · (simp only [List.getElem_toArray, List.getElem_cons_zero, List.getElem_cons_succ]; go_simp; try with_reducible rfl)
    try simp only [Act.put, List.setIfInBounds_toArray, List.set_cons_zero, List.set_cons_succ]
    refine takeY (i := 19) (v := ?_) rfl rfl (by kernel_rfl) (by kernel_rfl) (by kernel_rfl) (fun _ _ _ h => h) (by rfl) (fun W hW => ?_) (by assumption) ?_
    rotate_left 1
    · (simp only [List.getElem_toArray, List.getElem_cons_zero, List.getElem_cons_succ]; go_simp; try with_reducible rfl)
    try simp only [Act.put, List.setIfInBounds_toArray, List.set_cons_zero, List.set_cons_succ]
    refine takeY (i := 21) (v := ?_) rfl rfl (by kernel_rfl) (by kernel_rfl) (by kernel_rfl) (fun _ _ _ h => h) (by rfl) (fun W hW => ?_) (by assumption) ?_
    rotate_left 1
    · (simp only [List.getElem_toArray, List.getElem_cons_zero, List.getElem_cons_succ]; go_simp; try with_reducible rfl)
    try simp only [Act.put, List.setIfInBounds_toArray, List.set_cons_zero, List.set_cons_succ]
    refine takeY (i := 22) (v := ?_) rfl rfl (by kernel_rfl) (by kernel_rfl) (by kernel_rfl) (fun _ _ _ h => h) (by rfl) (fun W hW => ?_) (by assumption) ?_
    rotate_left 1
    · (simp only [List.getElem_toArray, List.getElem_cons_zero, List.getElem_cons_succ]; go_simp; try with_reducible rfl)
    try simp only [Act.put, List.setIfInBounds_toArray, List.set_cons_zero, List.set_cons_succ]
    refine takeY (i := 23) (v := ?_) rfl rfl (by kernel_rfl) (by kernel_rfl) (by kernel_rfl) (fun _ _ _ h => h) (by rfl) (fun W hW => ?_) (by assumption) ?_
    rotate_left 1
    · (simp only [List.getElem_toArray, List.getElem_cons_zero, List.getElem_cons_succ]; go_simp; try with_reducible rfl)
    try simp only [Act.put, List.setIfInBounds_toArray, List.set_cons_zero, List.set_cons_succ]
    refine takeY (i := 24) (v := ?_) rfl rfl (by kernel_rfl) (by kernel_rfl) (by kernel_rfl) (fun _ _ _ h => h) (by rfl) (fun W hW => ?_) (by assumption) ?_
    rotate_left 1
    · (simp only [List.getElem_toArray, List.getElem_cons_zero, List.getElem_cons_succ]; go_simp; try with_reducible rfl)
    try simp only [Act.put, List.setIfInBounds_toArray, List.set_cons_zero, List.set_cons_succ]
    refine takeY (i := 25) (v := ?_) rfl rfl (by kernel_rfl) (by kernel_rfl) (by kernel_rfl) (fun _ _ _ h => h) (by rfl) (fun W hW => ?_) (by assumption) ?_
    rotate_left 1
    · (simp only [List.getElem_toArray, List.getElem_cons_zero, List.getElem_cons_succ]; go_simp; try with_reducible rfl)
    try simp only [Act.put, List.setIfInBounds_toArray, List.set_cons_zero, List.set_cons_succ]
    refine wpAnyH_ready (rs := [20]) (by kernel_rfl) (by simp) ?_
    refine AllReadyH.cons rfl (fun K hK => ?_) AllReadyH.nil
    go_simp
    go_at_call 14
    refine (same_any D E n M _ _ _ (HV.out.below (LXO.bel (LXO.of hHeld : LXO w (.slice A D.length c) n (.slice B E.length d) M xb (.slice A1 n1 c1) m1 f3 r3 _))) (HU.out.below (LXO.bel (LXO.of hHeld : LXO w (.slice A D.length c) n (.slice B E.length d) M xb (.slice A1 n1 c1) m1 f3 r3 _))) hD hl2).mono ?_
    rintro e w11 ⟨rfl, hbel⟩
    have HZ2 := LXO.call (LXO.of hHeld : LXO w (.slice A D.length c) n (.slice B E.length d) M xb (.slice A1 n1 c1) m1 f3 r3 _) hbel
    clear hbel hHeld
    go_wp2_with fail
    refine hK.out _ _ (LXO.s HZ2) (fun hHeld => ?_)
    clear hK K
    try simp only [Act.put, List.setIfInBounds_toArray, List.set_cons_zero, List.set_cons_succ]
    refine takeY (i := 26) (v := ?_) rfl rfl (by kernel_rfl) (by kernel_rfl) (by kernel_rfl) (fun _ _ _ h => h) (by rfl) (fun W hW => ?_) (by assumption) ?_
    rotate_left 1
    · (simp only [List.getElem_toArray, List.getElem_cons_zero, List.getElem_cons_succ]; go_simp; try with_reducible rfl)
    try simp only [Act.put, List.setIfInBounds_toArray, List.set_cons_zero, List.set_cons_succ]
    refine takeY (i := 27) (v := ?_) rfl rfl (by kernel_rfl) (by kernel_rfl) (by kernel_rfl) (fun _ _ _ h => h) (by rfl) (fun W hW => ?_) (by assumption) ?_
    rotate_left 1
    · (simp only [List.getElem_toArray, List.getElem_cons_zero, List.getElem_cons_succ]; go_simp; try with_reducible rfl)
    try simp only [Act.put, List.setIfInBounds_toArray, List.set_cons_zero, List.set_cons_succ]
    refine takeY (i := 28) (v := ?_) rfl rfl (by kernel_rfl) (by kernel_rfl) (by kernel_rfl) (fun _ _ _ h => h) (by rfl) (fun W hW => ?_) (by assumption) ?_
    rotate_left 1
    · (simp only [List.getElem_toArray, List.getElem_cons_zero, List.getElem_cons_succ]; go_simp; try with_reducible rfl)
    try simp only [Act.put, List.setIfInBounds_toArray, List.set_cons_zero, List.set_cons_succ]
    refine takeY (i := 29) (v := ?_) rfl rfl (by kernel_rfl) (by kernel_rfl) (by kernel_rfl) (fun _ _ _ h => h) (by rfl) (fun W hW => ?_) (by assumption) ?_
    rotate_left 1
    · (simp only [List.getElem_toArray, List.getElem_cons_zero, List.getElem_cons_succ]; have hc := rb_string (HV.out.below (LXO.bel (LXO.of hW : LXO w (.slice A D.length c) n (.slice B E.length d) M xb (.slice A1 n1 c1) m1 f3 r3 _))); go_simp; try with_reducible rfl)
    try simp only [Act.put, List.setIfInBounds_toArray, List.set_cons_zero, List.set_cons_succ]
    refine takeY (i := 30) (v := ?_) rfl rfl (by kernel_rfl) (by kernel_rfl) (by kernel_rfl) (fun _ _ _ h => h) (by rfl) (fun W hW => ?_) (by assumption) ?_
    rotate_left 1
    · (simp only [List.getElem_toArray, List.getElem_cons_zero, List.getElem_cons_succ]; go_simp; try with_reducible rfl)
    try simp only [Act.put, List.setIfInBounds_toArray, List.set_cons_zero, List.set_cons_succ]
    refine takeY (i := 31) (v := ?_) rfl rfl (by kernel_rfl) (by kernel_rfl) (by kernel_rfl) (fun _ _ _ h => h) (by rfl) (fun W hW => ?_) (by assumption) ?_
    rotate_left 1
    · (simp only [List.getElem_toArray, List.getElem_cons_zero, List.getElem_cons_succ]; go_simp; try with_reducible rfl)
    try simp only [Act.put, List.setIfInBounds_toArray, List.set_cons_zero, List.set_cons_succ]
    refine takeY (i := 32) (v := ?_) rfl rfl (by kernel_rfl) (by kernel_rfl) (by kernel_rfl) (fun _ _ _ h => h) (by rfl) (fun W hW => ?_) (by assumption) ?_
    rotate_left 1
    · (simp only [List.getElem_toArray, List.getElem_cons_zero, List.getElem_cons_succ]; have hc := rb_string (HU.out.below (LXO.bel (LXO.of hW : LXO w (.slice A D.length c) n (.slice B E.length d) M xb (.slice A1 n1 c1) m1 f3 r3 _))); go_simp; try with_reducible rfl)
    try simp only [Act.put, List.setIfInBounds_toArray, List.set_cons_zero, List.set_cons_succ]
    refine takeY (i := 33) (v := ?_) rfl rfl (by kernel_rfl) (by kernel_rfl) (by kernel_rfl) (fun _ _ _ h => h) (by rfl) (fun W hW => ?_) (by assumption) ?_
    rotate_left 1
    · (simp only [List.getElem_toArray, List.getElem_cons_zero, List.getElem_cons_succ]; go_simp; try with_reducible rfl)
    try simp only [Act.put, List.setIfInBounds_toArray, List.set_cons_zero, List.set_cons_succ]
    refine takeY (i := 34) (v := ?_) rfl rfl (by kernel_rfl) (by kernel_rfl) (by kernel_rfl) (fun _ _ _ h => h) (by rfl) (fun W hW => ?_) (by assumption) ?_
    rotate_left 1
    · (simp only [List.getElem_toArray, List.getElem_cons_zero, List.getElem_cons_succ]; go_simp; try with_reducible rfl)
    try simp only [Act.put, List.setIfInBounds_toArray, List.set_cons_zero, List.set_cons_succ]
    refine takeY (i := 35) (v := ?_) rfl rfl (by kernel_rfl) (by kernel_rfl) (by kernel_rfl) (fun _ _ _ h => h) (by rfl) (fun W hW => ?_) (by assumption) ?_
    rotate_left 1
    · (simp only [List.getElem_toArray, List.getElem_cons_zero, List.getElem_cons_succ]; go_simp; try with_reducible rfl)
    try simp only [Act.put, List.setIfInBounds_toArray, List.set_cons_zero, List.set_cons_succ]
    refine takeY (i := 36) (v := ?_) rfl rfl (by kernel_rfl) (by kernel_rfl) (by kernel_rfl) (fun _ _ _ h => h) (by rfl) (fun W hW => ?_) (by assumption) ?_
    rotate_left 1
    · (simp only [List.getElem_toArray, List.getElem_cons_zero, List.getElem_cons_succ]; go_simp; try with_reducible rfl)
    try simp only [Act.put, List.setIfInBounds_toArray, List.set_cons_zero, List.set_cons_succ]
    refine takeY (i := 37) (v := ?_) rfl rfl (by kernel_rfl) (by kernel_rfl) (by kernel_rfl) (fun _ _ _ h => h) (by rfl) (fun W hW => ?_) (by assumption) ?_
    rotate_left 1
    · (simp only [List.getElem_toArray, List.getElem_cons_zero, List.getElem_cons_succ]; go_simp; try with_reducible rfl)
    try simp only [Act.put, List.setIfInBounds_toArray, List.set_cons_zero, List.set_cons_succ]
    refine wpAnyH_done (by kernel_rfl) ?_ _
    go_wp2
    go_ret
    have hq : (eqB D E == (D == E)) = true := by unfold eqB; by_cases h : D = E <;> simp [h]
    exact ⟨congrArg (fun b => Ending.returned (.bool b)) hq, LXO.bel (LXO.of hHeld : LXO w (.slice A D.length c) n (.slice B E.length d) M xb (.slice A1 n1 c1) m1 f3 r3 _)⟩
  · have e1 : ((n : Int) == M) = false := by simpa using hLM
    have e2 : decide ((n : Int) = M) = false := decide_eq_false hLM
    have HX := Lib.hid hLM
    clear hLM
    refine wp_region_held_drew (S := (fun W' => W'.cell? ⟨w.heap.size, 0, none⟩ = some (.slice A D.length c) ∧ W'.cell? ⟨w.heap.size, 1, none⟩ = some (.int .i64 n) ∧ W'.cell? ⟨w.heap.size + 1, 0, none⟩ = some (.slice B E.length d) ∧ W'.cell? ⟨w.heap.size + 1, 1, none⟩ = some (.int .i64 M) ∧ W'.cell? ⟨xb, 0, none⟩ = some (.slice A1 n1 c1) ∧ W'.cell? ⟨xb, 1, none⟩ = some (.int .i64 m1) ∧ LXO w (.slice A D.length c) n (.slice B E.length d) M xb (.slice A1 n1 c1) m1 f3 r3 W')) (by kernel_rfl) (LXO.s (LXO.call HZ.out (blw_drew (Below.refl _ _)))) (fun hHeld => ?_)
    refine takeY (i := 0) (v := ?_) rfl rfl (by kernel_rfl) (by kernel_rfl) (by kernel_rfl) (fun _ _ _ h => h) (by rfl) (fun W hW => ?_) (by assumption) ?_
    rotate_left 1
    · (simp only [List.getElem_toArray, List.getElem_cons_zero, List.getElem_cons_succ]; go_simp; try with_reducible rfl)
    try simp only [Act.put, List.setIfInBounds_toArray, List.set_cons_zero, List.set_cons_succ]
    refine takeY (i := 1) (v := ?_) rfl rfl (by kernel_rfl) (by kernel_rfl) (by kernel_rfl) (fun _ _ _ h => h) (by rfl) (fun W hW => ?_) (by assumption) ?_
    rotate_left 1
    · (simp only [List.getElem_toArray, List.getElem_cons_zero, List.getElem_cons_succ]; go_simp; try with_reducible rfl)
    try simp only [Act.put, List.setIfInBounds_toArray, List.set_cons_zero, List.set_cons_succ]
    refine takeY (i := 2) (v := ?_) rfl rfl (by kernel_rfl) (by kernel_rfl) (by kernel_rfl) (fun _ _ _ h => h) (by rfl) (fun W hW => ?_) (by assumption) ?_
    rotate_left 1
    · (simp only [List.getElem_toArray, List.getElem_cons_zero, List.getElem_cons_succ]; go_simp; try with_reducible rfl)
    try simp only [Act.put, List.setIfInBounds_toArray, List.set_cons_zero, List.set_cons_succ]
    refine takeY (i := 3) (v := ?_) rfl rfl (by kernel_rfl) (by kernel_rfl) (by kernel_rfl) (fun _ _ _ h => h) (by rfl) (fun W hW => ?_) (by assumption) ?_
    rotate_left 1
    · (simp only [List.getElem_toArray, List.getElem_cons_zero, List.getElem_cons_succ]; go_simp; try with_reducible rfl)
    try simp only [Act.put, List.setIfInBounds_toArray, List.set_cons_zero, List.set_cons_succ]
    refine takeY (i := 4) (v := ?_) rfl rfl (by kernel_rfl) (by kernel_rfl) (by kernel_rfl) (fun _ _ _ h => h) (by rfl) (fun W hW => ?_) (by assumption) ?_
    rotate_left 1
    · (simp only [List.getElem_toArray, List.getElem_cons_zero, List.getElem_cons_succ]; go_simp; try with_reducible rfl)
    try simp only [Act.put, List.setIfInBounds_toArray, List.set_cons_zero, List.set_cons_succ]
    refine takeY (i := 5) (v := ?_) rfl rfl (by kernel_rfl) (by kernel_rfl) (by kernel_rfl) (fun _ _ _ h => h) (by rfl) (fun W hW => ?_) (by assumption) ?_
    rotate_left 1
    · (simp only [List.getElem_toArray, List.getElem_cons_zero, List.getElem_cons_succ]; go_simp; try with_reducible rfl)
    try simp only [Act.put, List.setIfInBounds_toArray, List.set_cons_zero, List.set_cons_succ]
    refine wpAnyH_ready (rs := [6]) (by kernel_rfl) (by simp) ?_
    refine AllReadyH.cons rfl (fun K hK => ?_) AllReadyH.nil
    go_simp
    go_at_call 10
    refine (holds_gen (And.right (LXO.of hHeld : LXO w (.slice A D.length c) n (.slice B E.length d) M xb (.slice A1 n1 c1) m1 f3 r3 _)) rfl _ HST.out).mono ?_
    rintro e w10 ⟨rfl, hbel⟩
    have HZ1 := LXO.call (LXO.of hHeld : LXO w (.slice A D.length c) n (.slice B E.length d) M xb (.slice A1 n1 c1) m1 f3 r3 _) hbel
    clear hbel hHeld
    go_wp2_with fail
    refine hK.out _ _ (LXO.s HZ1) (fun hHeld => ?_)
    clear hK K
    try simp only [Act.put, List.setIfInBounds_toArray, List.set_cons_zero, List.set_cons_succ]
    refine takeY (i := 7) (v := ?_) rfl rfl (by kernel_rfl) (by kernel_rfl) (by kernel_rfl) (fun _ _ _ h => h) (by rfl) (fun W hW => ?_) (by assumption) ?_
    rotate_left 1
    · (simp only [List.getElem_toArray, List.getElem_cons_zero, List.getElem_cons_succ]; go_simp; try with_reducible rfl)
    try simp only [Act.put, List.setIfInBounds_toArray, List.set_cons_zero, List.set_cons_succ]
    refine takeY (i := 8) (v := ?_) rfl rfl (by kernel_rfl) (by kernel_rfl) (by kernel_rfl) (fun _ _ _ h => h) (by rfl) (fun W hW => ?_) (by assumption) ?_
    rotate_left 1
    · (simp only [List.getElem_toArray, List.getElem_cons_zero, List.getElem_cons_succ]; go_simp; try with_reducible rfl)
    try simp only [Act.put, List.setIfInBounds_toArray, List.set_cons_zero, List.set_cons_succ]
    refine takeY (i := 9) (v := ?_) rfl rfl (by kernel_rfl) (by kernel_rfl) (by kernel_rfl) (fun _ _ _ h => h) (by rfl) (fun W hW => ?_) (by assumption) ?_
    rotate_left 1
    · (simp only [List.getElem_toArray, List.getElem_cons_zero, List.getElem_cons_succ]; go_simp; try with_reducible rfl)
    try simp only [Act.put, List.setIfInBounds_toArray, List.set_cons_zero, List.set_cons_succ]
    refine takeY (i := 10) (v := ?_) rfl rfl (by kernel_rfl) (by kernel_rfl) (by kernel_rfl) (fun _ _ _ h => h) (by rfl) (fun W hW => ?_) (by assumption) ?_
    rotate_left 1
    · (simp only [List.getElem_toArray, List.getElem_cons_zero, List.getElem_cons_succ]; go_simp; try with_reducible rfl)
    try simp only [Act.put, List.setIfInBounds_toArray, List.set_cons_zero, List.set_cons_succ]
    refine takeY (i := 11) (v := ?_) rfl rfl (by kernel_rfl) (by kernel_rfl) (by kernel_rfl) (fun _ _ _ h => h) (by rfl) (fun W hW => ?_) (by assumption) ?_
    rotate_left 1
    · (simp only [List.getElem_toArray, List.getElem_cons_zero, List.getElem_cons_succ]; go_simp; try with_reducible rfl)
    try simp only [Act.put, List.setIfInBounds_toArray, List.set_cons_zero, List.set_cons_succ]
    refine takeY (i := 12) (v := ?_) rfl rfl (by kernel_rfl) (by kernel_rfl) (by kernel_rfl) (fun _ _ _ h => h) (by rfl) (fun W hW => ?_) (by assumption) ?_
    rotate_left 1
    · (simp only [List.getElem_toArray, List.getElem_cons_zero, List.getElem_cons_succ]; go_simp; try with_reducible rfl)
    try simp only [Act.put, List.setIfInBounds_toArray, List.set_cons_zero, List.set_cons_succ]
    refine takeY (i := 13) (v := ?_) rfl rfl (by kernel_rfl) (by kernel_rfl) (by kernel_rfl) (fun _ _ _ h => h) (by rfl) (fun W hW => ?_) (by assumption) ?_
    rotate_left 1
    · (simp only [List.getElem_toArray, List.getElem_cons_zero, List.getElem_cons_succ]; go_simp; try with_reducible rfl)
    try simp only [Act.put, List.setIfInBounds_toArray, List.set_cons_zero, List.set_cons_succ]
    refine takeY (i := 14) (v := ?_) rfl rfl (by kernel_rfl) (by kernel_rfl) (by kernel_rfl) (fun _ _ _ h => h) (by rfl) (fun W hW => ?_) (by assumption) ?_
    rotate_left 1
    · (simp only [List.getElem_toArray, List.getElem_cons_zero, List.getElem_cons_succ]; go_simp; try with_reducible rfl)
    try simp only [Act.put, List.setIfInBounds_toArray, List.set_cons_zero, List.set_cons_succ]
    refine takeY (i := 15) (v := ?_) rfl rfl (by kernel_rfl) (by kernel_rfl) (by kernel_rfl) (fun _ _ _ h => h) (by rfl) (fun W hW => ?_) (by assumption) ?_
    rotate_left 1
    · (simp only [List.getElem_toArray, List.getElem_cons_zero, List.getElem_cons_succ]; go_simp; try with_reducible rfl)
    try simp only [Act.put, List.setIfInBounds_toArray, List.set_cons_zero, List.set_cons_succ]
    refine takeY (i := 16) (v := ?_) rfl rfl (by kernel_rfl) (by kernel_rfl) (by kernel_rfl) (fun _ _ _ h => h) (by rfl) (fun W hW => ?_) (by assumption) ?_
    rotate_left 1
    · (simp only [List.getElem_toArray, List.getElem_cons_zero, List.getElem_cons_succ]; go_simp; try with_reducible rfl)
    try simp only [Act.put, List.setIfInBounds_toArray, List.set_cons_zero, List.set_cons_succ]
    refine takeY (i := 17) (v := ?_) rfl rfl (by kernel_rfl) (by kernel_rfl) (by kernel_rfl) (fun _ _ _ h => h) (by rfl) (fun W hW => ?_) (by assumption) ?_
    rotate_left 1
    · (simp only [List.getElem_toArray, List.getElem_cons_zero, List.getElem_cons_succ]; go_simp; try with_reducible rfl)
    try simp only [Act.put, List.setIfInBounds_toArray, List.set_cons_zero, List.set_cons_succ]
    refine takeY (i := 18) (v := ?_) rfl rfl (by kernel_rfl) (by kernel_rfl) (by kernel_rfl) (fun _ _ _ h => h) (by rfl) (fun W hW => ?_) (by assumption) ?_
    rotate_left 1
    · (simp only [List.getElem_toArray, List.getElem_cons_zero, List.getElem_cons_succ]; go_simp; try with_reducible rfl)
    try simp only [Act.put, List.setIfInBounds_toArray, List.set_cons_zero, List.set_cons_succ]
    refine takeY (i := 19) (v := ?_) rfl rfl (by kernel_rfl) (by kernel_rfl) (by kernel_rfl) (fun _ _ _ h => h) (by rfl) (fun W hW => ?_) (by assumption) ?_
    rotate_left 1
    · (simp only [List.getElem_toArray, List.getElem_cons_zero, List.getElem_cons_succ]; go_simp; try with_reducible rfl)
    try simp only [Act.put, List.setIfInBounds_toArray, List.set_cons_zero, List.set_cons_succ]
    refine takeY (i := 21) (v := ?_) rfl rfl (by kernel_rfl) (by kernel_rfl) (by kernel_rfl) (fun _ _ _ h => h) (by rfl) (fun W hW => ?_) (by assumption) ?_
    rotate_left 1
    · (simp only [List.getElem_toArray, List.getElem_cons_zero, List.getElem_cons_succ]; go_simp; try with_reducible rfl)
    try simp only [Act.put, List.setIfInBounds_toArray, List.set_cons_zero, List.set_cons_succ]
    refine takeY (i := 22) (v := ?_) rfl rfl (by kernel_rfl) (by kernel_rfl) (by kernel_rfl) (fun _ _ _ h => h) (by rfl) (fun W hW => ?_) (by assumption) ?_
    rotate_left 1
    · (simp only [List.getElem_toArray, List.getElem_cons_zero, List.getElem_cons_succ]; go_simp; try with_reducible rfl)
    try simp only [Act.put, List.setIfInBounds_toArray, List.set_cons_zero, List.set_cons_succ]
    refine takeY (i := 23) (v := ?_) rfl rfl (by kernel_rfl) (by kernel_rfl) (by kernel_rfl) (fun _ _ _ h => h) (by rfl) (fun W hW => ?_) (by assumption) ?_
    rotate_left 1
    · (simp only [List.getElem_toArray, List.getElem_cons_zero, List.getElem_cons_succ]; go_simp; try with_reducible rfl)
    try simp only [Act.put, List.setIfInBounds_toArray, List.set_cons_zero, List.set_cons_succ]
    refine takeY (i := 24) (v := ?_) rfl rfl (by kernel_rfl) (by kernel_rfl) (by kernel_rfl) (fun _ _ _ h => h) (by rfl) (fun W hW => ?_) (by assumption) ?_
    rotate_left 1
    · (simp only [List.getElem_toArray, List.getElem_cons_zero, List.getElem_cons_succ]; go_simp; try with_reducible rfl)
    try simp only [Act.put, List.setIfInBounds_toArray, List.set_cons_zero, List.set_cons_succ]
    refine takeY (i := 25) (v := ?_) rfl rfl (by kernel_rfl) (by kernel_rfl) (by kernel_rfl) (fun _ _ _ h => h) (by rfl) (fun W hW => ?_) (by assumption) ?_
    rotate_left 1
    · (simp only [List.getElem_toArray, List.getElem_cons_zero, List.getElem_cons_succ]; go_simp; try with_reducible rfl)
    try simp only [Act.put, List.setIfInBounds_toArray, List.set_cons_zero, List.set_cons_succ]
    refine wpAnyH_ready (rs := [20]) (by kernel_rfl) (by simp) ?_
    refine AllReadyH.cons rfl (fun K hK => ?_) AllReadyH.nil
    go_simp
    go_at_call 14
    refine (same_any D E n M _ _ _ (HV.out.below (LXO.bel (LXO.of hHeld : LXO w (.slice A D.length c) n (.slice B E.length d) M xb (.slice A1 n1 c1) m1 f3 r3 _))) (HU.out.below (LXO.bel (LXO.of hHeld : LXO w (.slice A D.length c) n (.slice B E.length d) M xb (.slice A1 n1 c1) m1 f3 r3 _))) hD hl2).mono ?_
    rintro e w11 ⟨rfl, hbel⟩
    have HZ2 := LXO.call (LXO.of hHeld : LXO w (.slice A D.length c) n (.slice B E.length d) M xb (.slice A1 n1 c1) m1 f3 r3 _) hbel
    clear hbel hHeld
    go_wp2_with fail
    refine hK.out _ _ (LXO.s HZ2) (fun hHeld => ?_)
    clear hK K
    try simp only [Act.put, List.setIfInBounds_toArray, List.set_cons_zero, List.set_cons_succ]
    refine takeY (i := 26) (v := ?_) rfl rfl (by kernel_rfl) (by kernel_rfl) (by kernel_rfl) (fun _ _ _ h => h) (by rfl) (fun W hW => ?_) (by assumption) ?_
    rotate_left 1
    · (simp only [List.getElem_toArray, List.getElem_cons_zero, List.getElem_cons_succ]; go_simp; try with_reducible rfl)
    try simp only [Act.put, List.setIfInBounds_toArray, List.set_cons_zero, List.set_cons_succ]
    refine takeNo (i := 27) rfl rfl (by kernel_rfl) (by kernel_rfl) (by kernel_rfl) (fun _ _ _ h => h) (by rfl) (by assumption) ?_
    try simp only [Act.put, List.setIfInBounds_toArray, List.set_cons_zero, List.set_cons_succ]
    refine takeNo (i := 28) rfl rfl (by kernel_rfl) (by kernel_rfl) (by kernel_rfl) (fun _ _ _ h => h) (by rfl) (by assumption) ?_
    try simp only [Act.put, List.setIfInBounds_toArray, List.set_cons_zero, List.set_cons_succ]
    refine takeNo (i := 29) rfl rfl (by kernel_rfl) (by kernel_rfl) (by kernel_rfl) (fun _ _ _ h => h) (by rfl) (by assumption) ?_
    try simp only [Act.put, List.setIfInBounds_toArray, List.set_cons_zero, List.set_cons_succ]
    refine takeNo (i := 30) rfl rfl (by kernel_rfl) (by kernel_rfl) (by kernel_rfl) (fun _ _ _ h => h) (by rfl) (by assumption) ?_
    try simp only [Act.put, List.setIfInBounds_toArray, List.set_cons_zero, List.set_cons_succ]
    refine takeNo (i := 31) rfl rfl (by kernel_rfl) (by kernel_rfl) (by kernel_rfl) (fun _ _ _ h => h) (by rfl) (by assumption) ?_
    try simp only [Act.put, List.setIfInBounds_toArray, List.set_cons_zero, List.set_cons_succ]
    refine takeNo (i := 32) rfl rfl (by kernel_rfl) (by kernel_rfl) (by kernel_rfl) (fun _ _ _ h => h) (by rfl) (by assumption) ?_
    try simp only [Act.put, List.setIfInBounds_toArray, List.set_cons_zero, List.set_cons_succ]
    refine takeNo (i := 33) rfl rfl (by kernel_rfl) (by kernel_rfl) (by kernel_rfl) (fun _ _ _ h => h) (by rfl) (by assumption) ?_
    try simp only [Act.put, List.setIfInBounds_toArray, List.set_cons_zero, List.set_cons_succ]
    refine takeY (i := 34) (v := ?_) rfl rfl (by kernel_rfl) (by kernel_rfl) (by kernel_rfl) (fun _ _ _ h => h) (by rfl) (fun W hW => ?_) (by assumption) ?_
    rotate_left 1
    · (simp only [List.getElem_toArray, List.getElem_cons_zero, List.getElem_cons_succ]; go_simp; try with_reducible rfl)
    try simp only [Act.put, List.setIfInBounds_toArray, List.set_cons_zero, List.set_cons_succ]
    refine takeY (i := 35) (v := ?_) rfl rfl (by kernel_rfl) (by kernel_rfl) (by kernel_rfl) (fun _ _ _ h => h) (by rfl) (fun W hW => ?_) (by assumption) ?_
    rotate_left 1
    · (simp only [List.getElem_toArray, List.getElem_cons_zero, List.getElem_cons_succ]; go_simp; try with_reducible rfl)
    try simp only [Act.put, List.setIfInBounds_toArray, List.set_cons_zero, List.set_cons_succ]
    refine takeY (i := 36) (v := ?_) rfl rfl (by kernel_rfl) (by kernel_rfl) (by kernel_rfl) (fun _ _ _ h => h) (by rfl) (fun W hW => ?_) (by assumption) ?_
    rotate_left 1
    · (simp only [List.getElem_toArray, List.getElem_cons_zero, List.getElem_cons_succ]; go_simp; try with_reducible rfl)
    try simp only [Act.put, List.setIfInBounds_toArray, List.set_cons_zero, List.set_cons_succ]
    refine takeY (i := 37) (v := ?_) rfl rfl (by kernel_rfl) (by kernel_rfl) (by kernel_rfl) (fun _ _ _ h => h) (by rfl) (fun W hW => ?_) (by assumption) ?_
    rotate_left 1
    · (simp only [List.getElem_toArray, List.getElem_cons_zero, List.getElem_cons_succ]; go_simp; try with_reducible rfl)
    try simp only [Act.put, List.setIfInBounds_toArray, List.set_cons_zero, List.set_cons_succ]
    refine wpAnyH_done (by kernel_rfl) ?_ _
    go_wp2
    go_ret
    exact ⟨rfl, LXO.bel (LXO.of hHeld : LXO w (.slice A D.length c) n (.slice B E.length d) M xb (.slice A1 n1 c1) m1 f3 r3 _)⟩
theorem BitsParts_walk (D : List UInt8) (L : Int) (v : Value) (E : List UInt8) (M : Int) (u : Value) (tt a b : Int) (w : World) (hv : RB w v D) (hl : D.length ≤ 140737488351232) (_ : (Lit.int .i64 L).wf = true)
    (hu : RB w u E) (hl2 : E.length ≤ 140737488351232) (_ : (Lit.int .i64 M).wf = true) (_ : (Lit.int .i64 tt).wf = true) (_ : (Lit.int .i64 a).wf = true) (_ : (Lit.int .i64 b).wf = true) :
    Calls Try.prog 3 #[.agg #[v, .int .i64 L], .agg #[u, .int .i64 M], .int .i64 tt, .int .i64 a, .int .i64 b] w (Tr w) := by
  by_cases h : chk D L = 0
  · obtain ⟨n, rfl⟩ : ∃ n : Nat, L = n := ⟨L.toNat, by have := chk_bd h; omega⟩
    exact parts_ok D E n M tt a b v u w hv hu hl2 h hl
  · exact parts_err D E L M tt a b v u w hv hu hl hl2 h hl
theorem rb_of_ints {w : World} {x : Addr} {l c : Nat} {zs : List Int} (hl : l ≤ c) (hz : zs.length = c) (hcell : ∀ i, i < zs.length → w.cell? (x.add i) = some (.int .u8 (zs.getD i 0))) (hwz : ∀ n ∈ zs, (Lit.int .u8 n).wf = true) :
    RB w (.slice (some x) l c) ((zs.take l).map fun z => UInt8.ofNat z.toNat) := by
  have hlen : ((zs.take l).map fun z => UInt8.ofNat z.toNat).length = l := by simp; omega
  refine ⟨some x, c, by rw [hlen], by omega, fun i hi => ⟨x, rfl, ?_⟩⟩
  rw [hlen] at hi
  have hi' : i < zs.length := by omega
  rw [hcell i hi']
  have hb : 0 ≤ zs[i] ∧ zs[i] ≤ 255 := by
    have := hwz zs[i] (List.getElem_mem hi')
    simp [Lit.wf, IntKind.min, IntKind.max, IntKind.signed, IntKind.bits] at this; omega
  congr 2
  simp only [List.getD, List.getElem?_eq_getElem hi', Option.getD_some, List.getElem_map, List.getElem_take, UInt8.toNat_ofNat']
  omega
end Go.Proofs.Ytnbdmmepdmmbmaa
