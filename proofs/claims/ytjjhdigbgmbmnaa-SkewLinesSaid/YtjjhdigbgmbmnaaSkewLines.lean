/- The walk of the law SkewLines. -/
import Derived.Test.YtjjhdigbgmbmnaaSkxT
import Derived.Test.YtjjhdigbgmbmnaaSkxD
import Derived.Test.YtjjhdigbgmbmnaaSkwY
import Derived.Test.YtjjhdigbgmbmnaaQuiet
namespace Go.Proofs.Ytjjhdigbgmbmnaa.Skw
open Go.RowKit Aid Fx App
theorem IntsAt.below {w w' : World} {a : Option Addr} {n : Nat} {X : Nat → Int} (h : IntsAt w a n X) (hb : Below w.heap.size w w') : IntsAt w' a n X :=
  ⟨h.1, fun h0 => by
    obtain ⟨b, off, e, hlt, hc⟩ := h.2 h0
    exact ⟨b, off, e, Nat.lt_of_lt_of_le hlt hb.size, fun i hi => (hb.cell (p := ⟨b, _, none⟩) hlt).trans (hc i hi)⟩⟩
set_option maxRecDepth 100000 in
set_option maxHeartbeats 25600000 in
theorem SkewLines_walk (A B : Int) (a1 : Option Addr) (n c1 : Nat) (X : Nat → Int) (a2 : Option Addr) (n2 c2 : Nat) (U : Nat → Int) (a3 : Option Addr) (n3 c3 : Nat) (V : Nat → Int) (x : Int) (w : World) (i1 : IntsAt w a1 n X) (i2 : IntsAt w a2 n2 U) (i3 : IntsAt w a3 n3 V) :
    Calls Try.prog 6 #[.agg #[.int .i64 A, .int .i64 B, .slice a1 n c1, .slice a2 n2 c2, .slice a3 n3 c3], .int .i64 x] w fun e w' => e = .returned (.bool true) ∧ Below w.heap.size w w' := by
  have HB0 : Hid (Below w.heap.size w (w.alloc (.cells #[.int .i64 A, .int .i64 B, .slice a1 n c1, .slice a2 n2 c2, .slice a3 n3 c3] 37))) := hide ((Below.refl _ _).alloc (Nat.le_refl _) _)
  have HC0 : Hid ((w.alloc (.cells #[.int .i64 A, .int .i64 B, .slice a1 n c1, .slice a2 n2 c2, .slice a3 n3 c3] 37)).cell? ⟨w.heap.size, 0, none⟩ = some (.int .i64 A) ∧ (w.alloc (.cells #[.int .i64 A, .int .i64 B, .slice a1 n c1, .slice a2 n2 c2, .slice a3 n3 c3] 37)).cell? ⟨w.heap.size, 1, none⟩ = some (.int .i64 B) ∧ (w.alloc (.cells #[.int .i64 A, .int .i64 B, .slice a1 n c1, .slice a2 n2 c2, .slice a3 n3 c3] 37)).cell? ⟨w.heap.size, 2, none⟩ = some (.slice a1 n c1) ∧ (w.alloc (.cells #[.int .i64 A, .int .i64 B, .slice a1 n c1, .slice a2 n2 c2, .slice a3 n3 c3] 37)).cell? ⟨w.heap.size, 3, none⟩ = some (.slice a2 n2 c2) ∧ (w.alloc (.cells #[.int .i64 A, .int .i64 B, .slice a1 n c1, .slice a2 n2 c2, .slice a3 n3 c3] 37)).cell? ⟨w.heap.size, 4, none⟩ = some (.slice a3 n3 c3)) := hide ⟨by simp [go_sem], by simp [go_sem], by simp [go_sem], by simp [go_sem], by simp [go_sem]⟩
  have HLX : Hid (w.heap.size < (w.alloc (.cells #[.int .i64 A, .int .i64 B, .slice a1 n c1, .slice a2 n2 c2, .slice a3 n3 c3] 37)).heap.size) := hide (by simp)
  have CG := hide (fun W (h : Below w.heap.size w W) => gates_any A B a1 n c1 X a2 n2 c2 U a3 n3 c3 V W (i1.below h) (i2.below h) (i3.below h))
  have CW := hide awake_any
  clear i1 i2 i3
  go_enter Try.func6, Try.ntmps6
  go_upto_region 1 with fail
  generalize hW0 : w.alloc (.cells #[.int .i64 A, .int .i64 B, .slice a1 n c1, .slice a2 n2 c2, .slice a3 n3 c3] 37) = W0 at HB0 HC0 HLX ⊢
  clear hW0
  obtain ⟨k0, k1, k2, k3, k4⟩ := HC0.out
  go_wp2_with fail
  with_reducible refine (CG.out _ HB0.out).mono ?_
  rintro e w1 (⟨rfl, hbn⟩ | ⟨LO, v, rfl, own, hbn⟩)
  · have hb := rat_trans HB0.out hbn
    clear hbn k0 k1 k2 k3 k4 HC0 HLX CG
    go_wp2_with fail
    with_reducible refine (CW.out _).mono ?_
    rintro e w9 ⟨rfl, hb9⟩
    have HB := hide (rat_trans hb hb9)
    clear hb hb9 CW
    go_wp2
    go_ret
    exact ⟨rfl, HB.out⟩
  have hb := rat_trans HB0.out hbn
  have g0 := (hbn.cell (p := ⟨w.heap.size, 0, none⟩) HLX.out).trans k0
  have g1 := (hbn.cell (p := ⟨w.heap.size, 1, none⟩) HLX.out).trans k1
  have glt : w.heap.size < w1.heap.size := Nat.lt_of_lt_of_le HLX.out hbn.size
  clear hbn k0 k1 k2 k3 k4 HC0 HLX CG
  by_cases hx0 : x < 0
  · clear own LO
    go_wp2_with fail
    with_reducible refine (CW.out _).mono ?_
    rintro e w9 ⟨rfl, hb9⟩
    have HB := hide (rat_trans hb hb9)
    clear hb hb9 CW
    go_wp2
    go_ret
    exact ⟨rfl, HB.out⟩
  have q0 : decide (x < 0) = false := by simp; omega
  by_cases hx1 : 100000 < x
  · clear own LO hx0
    go_wp2_with fail
    with_reducible refine (CW.out _).mono ?_
    rintro e w9 ⟨rfl, hb9⟩
    have HB := hide (rat_trans hb hb9)
    clear hb hb9 CW
    go_wp2
    go_ret
    exact ⟨rfl, HB.out⟩
  have q1 : decide (100000 < x) = false := by simp; omega
  have t := line_thru LO
  have hxx : 0 ≤ x ∧ x ≤ 1073741824 := by omega
  have lb := line_bd LO.a LO.b (show 0 ≤ x ∧ x ≤ 100000 by omega)
  have hBb := LO.b
  have hn20 := LO.h20
  have hn2 := LO.h2
  clear LO hx0 hx1
  generalize hLo : (fun i => A + B * X i - U i) = Lo at own t
  generalize hHi : (fun i => A + B * X i + V i) = Hi at own t
  clear hLo hHi
  obtain ⟨p, c, hv, hgt, hct⟩ := row_gates own (by omega)
  subst hv
  clear own
  have sl := thru_sl t
  have va := thru_va t x
  have ex := fun he => thru_exact t he x
  have hle : topR (sl1 X Lo Hi) n ≤ botR (sl2 X Lo Hi) n := Rat.le_trans sl.1 sl.2
  have eS : slE X Lo Hi n = 0 := by unfold slE; rw [if_neg (by rw [ok_chk t.ok]; decide), if_neg (by rintro (k | k); omega; exact k hle)]
  have eS1 : slA X Lo Hi n = ((topR (sl1 X Lo Hi) n).num, ((topR (sl1 X Lo Hi) n).den : Int)) := by unfold slA; rw [if_pos eS]
  have eS2 : slB X Lo Hi n = ((botR (sl2 X Lo Hi) n).num, ((botR (sl2 X Lo Hi) n).den : Int)) := by unfold slB; rw [if_pos eS]
  have eA : atE X Lo Hi n x = 0 := by unfold atE; rw [if_neg (by rw [ok_chk t.ok]; decide), if_neg (by omega), if_neg (by omega), if_pos hle]
  have eA1 : atA X Lo Hi n x = ((topR (va1 X Lo Hi x) n).num, ((topR (va1 X Lo Hi x) n).den : Int)) := by unfold atA; rw [if_pos eA, if_neg (by omega)]
  have eA2 : atB X Lo Hi n x = ((botR (va2 X Lo Hi x) n).num, ((botR (va2 X Lo Hi x) n).den : Int)) := by unfold atB; rw [if_pos eA, if_neg (by omega)]
  have S1 := sl_num t.ok t.n2
  have F1 := va_fit t.ok t.n2 hxx
  have CS : Hid (∀ W, Below w1.heap.size w1 W → Calls Try.prog 12 #[.slice p n c] W fun e w' => e = .returned (.tuple #[.agg #[.int .i64 (topR (sl1 X Lo Hi) n).num, .int .i64 (topR (sl1 X Lo Hi) n).den], .agg #[.int .i64 (botR (sl2 X Lo Hi) n).num, .int .i64 (botR (sl2 X Lo Hi) n).den], .int .i64 0]) ∧ Below W.heap.size W w') := hide fun W h => by
    have q := Slopes_any p n c _ _ _ W (hgt.below h) hct
    rw [eS, eS1, eS2] at q
    exact q
  have CA : Hid (∀ W, Below w1.heap.size w1 W → Calls Try.prog 23 #[.slice p n c, .int .i64 x] W fun e w' => e = .returned (.tuple #[.agg #[.int .i64 (topR (va1 X Lo Hi x) n).num, .int .i64 (topR (va1 X Lo Hi x) n).den], .agg #[.int .i64 (botR (va2 X Lo Hi x) n).num, .int .i64 (botR (va2 X Lo Hi x) n).den], .int .i64 0]) ∧ Below W.heap.size W w') := hide fun W h => by
    have q := At_any p n c _ _ _ x W (hgt.below h) hct
    rw [eA, eA1, eA2] at q
    exact q
  have CP := hide (fun W (h : Below w1.heap.size w1 W) => Passes_any p n c _ _ _ W (hgt.below h) hct)
  rw [decide_eq_true (show PaB X Lo Hi n from ⟨ok_chk t.ok, .inr hle⟩)] at CP
  clear eS eS1 eS2 eA eA1 eA2 hle
  generalize topR (sl1 X Lo Hi) n = U1 at *
  generalize botR (sl2 X Lo Hi) n = V1 at *
  generalize topR (va1 X Lo Hi x) n = P1 at *
  generalize botR (va2 X Lo Hi x) n = Q1 at *
  have R1 := hide (fun W => right_any U1 W S1.1.1)
  have R2 := hide (fun W => right_any V1 W S1.2.1)
  have R3 := hide (fun W => right_any P1 W F1.1)
  have R4 := hide (fun W => right_any Q1 W F1.2)
  have L1 := hide (fun W => lless_any B 1 U1.num U1.den W (by omega) S1.1.1.1 (by omega) S1.1.1.2)
  rw [Rat.num_divInt_den, decide_eq_false (Rat.not_lt.2 sl.1)] at L1
  have L2 := hide (fun W => lless_any V1.num V1.den B 1 W S1.2.1.1 (by omega) S1.2.1.2 (by omega))
  rw [Rat.num_divInt_den, decide_eq_false (Rat.not_lt.2 sl.2)] at L2
  have L3 := hide (fun W => lless_any (A + B * x) 1 P1.num P1.den W (by omega) F1.1.1 (by omega) F1.1.2)
  rw [Rat.num_divInt_den, decide_eq_false (Rat.not_lt.2 va.1)] at L3
  have L4 := hide (fun W => lless_any Q1.num Q1.den (A + B * x) 1 W F1.2.1 (by omega) F1.2.2 (by omega))
  rw [Rat.num_divInt_den, decide_eq_false (Rat.not_lt.2 va.2)] at L4
  have HEX := hide ex
  have v1 : IntKind.i64.wrap (B * x) = B * x := IntWalk.i64_in _ (by omega)
  have v2 : IntKind.i64.wrap (A + B * x) = A + B * x := IntWalk.i64_in _ (by omega)
  obtain ⟨b, off, rfl, hlt, hc0⟩ := hgt.at_ (by omega)
  have HGC := hide hc0
  have HS : Hid (∀ W, Below w1.heap.size w1 W → ∀ i, i < n → W.cell? ⟨b, off + i * 3 + 1, none⟩ = some (.int .i64 (Lo i)) ∧ W.cell? ⟨b, off + i * 3 + 2, none⟩ = some (.int .i64 (Hi i))) :=
    hide fun W h i hi => ⟨(h.cell (p := ⟨b, _, none⟩) hlt).trans (HGC.out i hi).2.1, (h.cell (p := ⟨b, _, none⟩) hlt).trans (HGC.out i hi).2.2⟩
  have HG01 : Hid (∀ W, Below w1.heap.size w1 W → W.cell? ⟨w.heap.size, 0, none⟩ = some (.int .i64 A) ∧ W.cell? ⟨w.heap.size, 1, none⟩ = some (.int .i64 B)) := hide fun W h => ⟨(h.cell (p := ⟨w.heap.size, 0, none⟩) glt).trans g0, (h.cell (p := ⟨w.heap.size, 1, none⟩) glt).trans g1⟩
  clear S1 F1 sl va ex t hgt hct hc0 HGC lb hBb g0 g1 hxx
  have hbm := Below.refl w1.heap.size w1
  go_wp2_with fail
  with_reducible refine (CS.out _ hbm).mono ?_
  rintro e w5 ⟨rfl, hbn⟩
  replace hb := rat_trans hb hbn
  replace hbm := rat_trans hbm hbn
  clear hbn  CS
  clear q0 q1
  go_upto_region 5 with fail
  have hup := ((Below.refl w5.heap.size w5).alloc (Nat.le_refl _) (.cells #[.int .i64 U1.num, .int .i64 U1.den] 26)).alloc (by simp) (.cells #[.int .i64 V1.num, .int .i64 V1.den] 26)
  have EA := (RatAt.newv (n := U1.num) (d := U1.den) (W := w5) rfl).alloc (.cells #[.int .i64 V1.num, .int .i64 V1.den] 26)
  have FA : RatAt ((w5.alloc (.cells #[.int .i64 U1.num, .int .i64 U1.den] 26)).alloc (.cells #[.int .i64 V1.num, .int .i64 V1.den] 26)) (w5.heap.size + 1) V1.num V1.den := RatAt.newv1 rfl
  replace hb := rat_trans hb hup
  replace hbm := rat_trans hbm hup
  clear hup
  generalize hW : ((w5.alloc (.cells #[.int .i64 U1.num, .int .i64 U1.den] 26)).alloc (.cells #[.int .i64 V1.num, .int .i64 V1.den] 26)) = W5 at EA FA hb hbm ⊢
  clear hW
  generalize w5.heap.size = gA at EA FA ⊢
  go_wp2_with fail
  with_reducible refine (CA.out _ hbm).mono ?_
  rintro e w6 ⟨rfl, hbn⟩
  replace hb := rat_trans hb hbn
  replace hbm := rat_trans hbm hbn
  replace EA := EA.step hbn
  replace FA := FA.step hbn
  clear hbn  CA
  go_upto_region 6 with fail
  have hup := ((Below.refl w6.heap.size w6).alloc (Nat.le_refl _) (.cells #[.int .i64 P1.num, .int .i64 P1.den] 26)).alloc (by simp) (.cells #[.int .i64 Q1.num, .int .i64 Q1.den] 26)
  have EB := (RatAt.newv (n := P1.num) (d := P1.den) (W := w6) rfl).alloc (.cells #[.int .i64 Q1.num, .int .i64 Q1.den] 26)
  have FB : RatAt ((w6.alloc (.cells #[.int .i64 P1.num, .int .i64 P1.den] 26)).alloc (.cells #[.int .i64 Q1.num, .int .i64 Q1.den] 26)) (w6.heap.size + 1) Q1.num Q1.den := RatAt.newv1 rfl
  replace hb := rat_trans hb hup
  replace hbm := rat_trans hbm hup
  replace EA := EA.step hup
  replace FA := FA.step hup
  clear hup
  generalize hW : ((w6.alloc (.cells #[.int .i64 P1.num, .int .i64 P1.den] 26)).alloc (.cells #[.int .i64 Q1.num, .int .i64 Q1.den] 26)) = wr at EB FB EA FA hb hbm ⊢
  clear hW
  generalize w6.heap.size = gB at EB FB ⊢
  go_cut [13, 14] (fun u v wx => ∃ P Q : Nat, u = .pointer (some ⟨P, 0, none⟩) ∧ v = .pointer (some ⟨Q, 0, none⟩) ∧ RatAt wx P B 1 ∧ RatAt wx Q (A + B * x) 1 ∧ Below wr.heap.size wr wx)
  case first =>
    have hb1 := Below.refl wr.heap.size wr
    have hbb := hb1
    have HK : Hid (∀ W, Below wr.heap.size wr W → W.cell? ⟨w.heap.size, 0, none⟩ = some (.int .i64 A) ∧ W.cell? ⟨w.heap.size, 1, none⟩ = some (.int .i64 B) ∧ Below wr.heap.size wr W) := hide fun W h => ⟨(HG01.out W (rat_trans hbm h)).1, (HG01.out W (rat_trans hbm h)).2, h⟩
    have glr : w.heap.size < wr.heap.size := Nat.lt_of_lt_of_le glt hbm.size
    go_region_held3 (fun W => W.cell? ⟨w.heap.size, 0, none⟩ = some (.int .i64 A) ∧ W.cell? ⟨w.heap.size, 1, none⟩ = some (.int .i64 B) ∧ Below wr.heap.size wr W)
      (exact HK.out _ (by (repeat (first | with_reducible exact hbb | with_reducible exact hb1 | with_reducible refine Below.setCell ?_ (by first | exact Nat.le_refl _ | exact hbb.size | (simp; done) | (have := hbb.size; simp; omega)) _ | with_reducible refine rat_up ?_ _ | with_reducible refine Below.drew ?_ | with_reducible refine below_drewN ?_ _)))) (first | fail)
    all_goals (go_wp2_with fail; go_meet)
    all_goals (refine ⟨_, _, rfl, rfl, ?_, ?_, ?_⟩)
    all_goals (first | ((repeat (first | with_reducible exact zA | with_reducible exact zB | with_reducible exact RatAt.newv rfl | with_reducible exact RatAt.newv1 rfl | with_reducible exact RatAt.newv (by simp [World.setCell]) | with_reducible exact RatAt.fresh rfl | with_reducible exact RatAt.fresh1 rfl | with_reducible refine RatAt.put (n := 0) (d := 0) ?_ _ _ | with_reducible refine RatAt.other ?_ (by omega) _ _ | with_reducible refine RatAt.alloc ?_ _ | with_reducible refine RatAt.drewN ?_ _ | with_reducible refine RatAt.drew ?_)); done) | (repeat (first | with_reducible exact hbb | with_reducible exact hb1 | with_reducible refine Below.setCell ?_ (by first | exact Nat.le_refl _ | exact hbb.size | (simp; done) | (have := hbb.size; simp; omega)) _ | with_reducible refine rat_up ?_ _ | with_reducible refine Below.drew ?_ | with_reducible refine below_drewN ?_ _)))
  case rest =>
    obtain ⟨P, Q, rfl, rfl, E13, E14, T⟩ := hcut
    replace hb := rat_trans hb T
    replace hbm := rat_trans hbm T
    replace EA := EA.step T
    replace FA := FA.step T
    replace EB := EB.step T
    replace FB := FB.step T
    clear T v1 v2
    go_upto_region 7 with fail
    go_wp2_with fail
    with_reducible refine (CP.out _ hbm).mono ?_
    rintro e w20 ⟨rfl, hbn⟩
    replace hb := rat_trans hb hbn
    replace hbm := rat_trans hbm hbn
    replace EA := EA.step hbn
    replace FA := FA.step hbn
    replace EB := EB.step hbn
    replace FB := FB.step hbn
    replace E13 := E13.step hbn
    replace E14 := E14.step hbn
    clear hbn  CP
    obtain ⟨x00, x01, _⟩ := EA.cells
    go_wp2_with fail
    with_reducible refine (R1.out _).mono ?_
    rintro e w21 ⟨rfl, hbn⟩
    replace hb := rat_trans hb hbn
    replace hbm := rat_trans hbm hbn
    replace EA := EA.step hbn
    replace FA := FA.step hbn
    replace EB := EB.step hbn
    replace FB := FB.step hbn
    replace E13 := E13.step hbn
    replace E14 := E14.step hbn
    clear hbn x00 x01 R1
    obtain ⟨x00, x01, _⟩ := FA.cells
    go_wp2_with fail
    with_reducible refine (R2.out _).mono ?_
    rintro e w22 ⟨rfl, hbn⟩
    replace hb := rat_trans hb hbn
    replace hbm := rat_trans hbm hbn
    replace EA := EA.step hbn
    replace FA := FA.step hbn
    replace EB := EB.step hbn
    replace FB := FB.step hbn
    replace E13 := E13.step hbn
    replace E14 := E14.step hbn
    clear hbn x00 x01 R2
    obtain ⟨x00, x01, _⟩ := EB.cells
    go_wp2_with fail
    with_reducible refine (R3.out _).mono ?_
    rintro e w23 ⟨rfl, hbn⟩
    replace hb := rat_trans hb hbn
    replace hbm := rat_trans hbm hbn
    replace EA := EA.step hbn
    replace FA := FA.step hbn
    replace EB := EB.step hbn
    replace FB := FB.step hbn
    replace E13 := E13.step hbn
    replace E14 := E14.step hbn
    clear hbn x00 x01 R3
    obtain ⟨x00, x01, _⟩ := FB.cells
    go_wp2_with fail
    with_reducible refine (R4.out _).mono ?_
    rintro e w24 ⟨rfl, hbn⟩
    replace hb := rat_trans hb hbn
    replace hbm := rat_trans hbm hbn
    replace EA := EA.step hbn
    replace FA := FA.step hbn
    replace EB := EB.step hbn
    replace FB := FB.step hbn
    replace E13 := E13.step hbn
    replace E14 := E14.step hbn
    clear hbn x00 x01 R4
    obtain ⟨x00, x01, _⟩ := E13.cells
    obtain ⟨x10, x11, _⟩ := EA.cells
    go_wp2_with fail
    with_reducible refine (L1.out _).mono ?_
    rintro e w25 ⟨rfl, hbn⟩
    replace hb := rat_trans hb hbn
    replace hbm := rat_trans hbm hbn
    replace EA := EA.step hbn
    replace FA := FA.step hbn
    replace EB := EB.step hbn
    replace FB := FB.step hbn
    replace E13 := E13.step hbn
    replace E14 := E14.step hbn
    clear hbn x00 x01 x10 x11 L1
    obtain ⟨x00, x01, _⟩ := FA.cells
    obtain ⟨x10, x11, _⟩ := E13.cells
    go_wp2_with fail
    with_reducible refine (L2.out _).mono ?_
    rintro e w26 ⟨rfl, hbn⟩
    replace hb := rat_trans hb hbn
    replace hbm := rat_trans hbm hbn
    replace EA := EA.step hbn
    replace FA := FA.step hbn
    replace EB := EB.step hbn
    replace FB := FB.step hbn
    replace E13 := E13.step hbn
    replace E14 := E14.step hbn
    clear hbn x00 x01 x10 x11 L2
    obtain ⟨x00, x01, _⟩ := E14.cells
    obtain ⟨x10, x11, _⟩ := EB.cells
    go_wp2_with fail
    with_reducible refine (L3.out _).mono ?_
    rintro e w27 ⟨rfl, hbn⟩
    replace hb := rat_trans hb hbn
    replace hbm := rat_trans hbm hbn
    replace EA := EA.step hbn
    replace FA := FA.step hbn
    replace EB := EB.step hbn
    replace FB := FB.step hbn
    replace E13 := E13.step hbn
    replace E14 := E14.step hbn
    clear hbn x00 x01 x10 x11 L3
    obtain ⟨x00, x01, _⟩ := FB.cells
    obtain ⟨x10, x11, _⟩ := E14.cells
    go_wp2_with fail
    with_reducible refine (L4.out _).mono ?_
    rintro e w28 ⟨rfl, hbn⟩
    replace hb := rat_trans hb hbn
    replace hbm := rat_trans hbm hbn
    replace EA := EA.step hbn
    replace FA := FA.step hbn
    replace EB := EB.step hbn
    replace FB := FB.step hbn
    replace E13 := E13.step hbn
    replace E14 := E14.step hbn
    clear hbn x00 x01 x10 x11 L4
    have HBM := hide hbm
    have HB := hide hb
    have HSIX := hide (And.intro EA (And.intro FA (And.intro EB (And.intro FB (And.intro E13 E14)))))
    clear hb hbm EA FA EB FB E13 E14
    go_wp2
    go_loopw [15, 16] (fun u v wx => ∃ (k : Nat) (ex : Bool), k ≤ n ∧ v = .int .i64 k ∧ u = .bool ex ∧ (ex = true ↔ ∀ i, i < k → Lo i = Hi i) ∧ ∃ z, wx = w28.drewN z) (fun _ v _ => n - (intOf v).toNat)
    case atStart => exact ⟨0, true, Nat.zero_le _, rfl, rfl, ⟨fun _ i h => absurd h (by omega), fun _ => rfl⟩, 0, rfl⟩
    case round =>
      obtain ⟨k, ex, hk, rfl, rfl, hex, z, rfl⟩ := hrel
      by_cases hkn : k < n
      · have hkq : (k : Int) < (n : Int) := by omega
        obtain ⟨y1, y2⟩ := HS.out _ HBM.out k hkn
        have HE : Hid ((ex && decide (Lo k = Hi k)) = true ↔ ∀ i, i < k + 1 → Lo i = Hi i) := hide (by
          rw [Bool.and_eq_true, decide_eq_true_iff, hex]
          constructor
          · rintro ⟨h1, h2⟩ i hi
            rcases Nat.lt_or_ge i k with h | h
            · exact h1 i h
            · obtain rfl : i = k := by omega
              exact h2
          · intro h
            exact ⟨fun i hi => h i (by omega), h k (by omega)⟩)
        clear hex
        generalize Lo k = yl at y1 HE
        generalize Hi k = yh at y2 HE
        cases ex
        · go_upto_region 13 with fail
          go_quiet (fail)
          go_wp2
          go_roundw
          case rel => exact ⟨k + 1, _, by omega, by go_num, rfl, HE.out, _, rfl⟩
          case measure => (simp [intOf]) <;> omega
        · go_upto_region 13 with fail
          go_quiet (fail)
          go_wp2
          go_roundw
          case rel => exact ⟨k + 1, _, by omega, by go_num, by first | rfl | simp, by simpa using HE.out, _, rfl⟩
          case measure => (simp [intOf]) <;> omega
      · have e : k = n := by omega
        subst e
        have hkk : decide ((k : Int) < (k : Int)) = false := by simp
        obtain ⟨EA, FA, EB, FB, E13, E14⟩ := HSIX.out
        cases ex
        · clear hex EA FA EB FB E13 E14
          go_wp2_with fail
          with_reducible refine (CW.out _).mono ?_
          rintro e w9 ⟨rfl, hb9⟩
          have HBB := hide (rat_trans (below_drewN HB.out z) hb9)
          clear hb9 CW
          go_wp2
          go_ret
          exact ⟨rfl, HBB.out⟩
        · obtain ⟨x1, x2, x3, x4⟩ := HEX.out (hex.1 rfl)
          subst x1 x2 x3 x4
          rw [(one_num B).1, (one_num B).2] at EA FA
          rw [(one_num (A + B * x)).1, (one_num (A + B * x)).2] at EB FB
          obtain ⟨a70, a71, _⟩ := EA.cells
          obtain ⟨a80, a81, _⟩ := FA.cells
          obtain ⟨a90, a91, _⟩ := EB.cells
          obtain ⟨b10, b11, _⟩ := FB.cells
          obtain ⟨b30, b31, _⟩ := E13.cells
          obtain ⟨b40, b41, _⟩ := E14.cells
          clear EA FA EB FB E13 E14
          clear hex
          go_wp2_with fail
          with_reducible refine (CW.out _).mono ?_
          rintro e w9 ⟨rfl, hb9⟩
          have HBB := hide (rat_trans (below_drewN HB.out z) hb9)
          clear hb9 CW a70 a71 a80 a81 a90 a91 b10 b11 b30 b31 b40 b41
          go_wp2
          go_ret
          exact ⟨rfl, HBB.out⟩
end Go.Proofs.Ytjjhdigbgmbmnaa.Skw
