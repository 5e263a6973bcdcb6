/- The contract of the reference's At: the same as the package's. -/
import Derived.Test.YtjjhdigbgmbmnaaSkxK
import Derived.Test.YtjjhdigbgmbmnaaSkxI
import Derived.Test.YtjjhdigbgmbmnaaSkxC
namespace Go.Proofs.Ytjjhdigbgmbmnaa.Skw
open Go.RowKit Aid Fx
set_option maxRecDepth 100000 in
set_option maxHeartbeats 12800000 in
theorem RAt_any (a : Option Addr) (n cap : Nat) (X L H : Nat → Int) (x : Int) (w : World) (hr : GatesAt w a n X L H) :
    Calls Try.prog 24 #[.slice a n cap, .int .i64 x] w fun e w' => e = .returned (.tuple #[ratP (atA X L H n x), ratP (atB X L H n x), .int .i64 (atE X L H n x)]) ∧ Below w.heap.size w w' := by
  have hn63 := hr.1
  have HB0 : Hid (Below w.heap.size w ((w.alloc (.cells #[.int .i64 0, .int .i64 0] 26)).alloc (.cells #[.int .i64 0, .int .i64 0] 26))) := hide (((Below.refl _ _).alloc (Nat.le_refl _) _).alloc (by simp) _)
  have HR4 : Hid (RatAt ((w.alloc (.cells #[.int .i64 0, .int .i64 0] 26)).alloc (.cells #[.int .i64 0, .int .i64 0] 26)) (w.heap.size) 0 0) := hide ((RatAt.fresh rfl).alloc _)
  have HR5 : Hid (RatAt ((w.alloc (.cells #[.int .i64 0, .int .i64 0] 26)).alloc (.cells #[.int .i64 0, .int .i64 0] 26)) (w.heap.size + 1) 0 0) := hide (RatAt.fresh1 rfl)
  have CC := hide (fun W (h : Below w.heap.size w W) => RCheck_any a n cap X L H W (hr.below h))
  have CP := hide (fun W (h : Below w.heap.size w W) => RPasses_any a n cap X L H W (hr.below h))
  have HG := hide (fun W (h : Below w.heap.size w W) => hr.below h)
  simp only [ratP]
  clear hr
  by_cases hc : chkG X L H n = 0
  · rw [hc] at CC
    have HO := hide (chk_ok hc)
    by_cases hx : x < 0 ∨ 1073741824 < x
    · have hE : atE X L H n x = 3 := by unfold atE; rw [if_neg (by rw [hc]; decide), if_pos hx]
      have hS := at_bad hE (by decide)
      rw [hS.1, hS.2, hE]
      clear hE hS CP HG
      by_cases hx0 : x < 0
      · clear hx
        go_enter Try.func24, Try.ntmps24
        go_upto_region 1 with fail
        generalize hW0 : ((w.alloc (.cells #[.int .i64 0, .int .i64 0] 26)).alloc (.cells #[.int .i64 0, .int .i64 0] 26)) = W0 at HB0 HR4 HR5 ⊢
        clear hW0
        go_wp2_with fail
        with_reducible refine (CC.out _ HB0.out).mono ?_
        rintro e w1 ⟨rfl, hb⟩
        have B1 := rat_trans HB0.out hb
        have R4 := HR4.out.step hb
        have R5 := HR5.out.step hb
        clear hb CC HB0 HR4 HR5
        obtain ⟨q40, q41, q4f⟩ := R4.cells
        obtain ⟨q50, q51, q5f⟩ := R5.cells
        have HB1 := hide B1
        clear R4 R5 B1
        go_wp2
        all_goals
          refine bodyPost_ret (v := .tuple #[.agg #[.int .i64 (0), .int .i64 (0)], .agg #[.int .i64 (0), .int .i64 (0)], .int .i64 3]) (by simp [results, Try.results24, go_sem, *]; try omega) rfl ?_
          refine ⟨rfl, ?_⟩
          repeat (first | with_reducible refine Below.drew ?_ | with_reducible refine below_drewN ?_ _ | with_reducible refine Below.setCell ?_ (by first | (dsimp only; omega) | (simp; omega)) _ | with_reducible refine rat_up ?_ _ | exact HB1.out)
      · have hx1 : 1073741824 < x := by omega
        have hx2 : decide (x < 0) = false := by simp; omega
        clear hx hx0
        go_enter Try.func24, Try.ntmps24
        go_upto_region 1 with fail
        generalize hW0 : ((w.alloc (.cells #[.int .i64 0, .int .i64 0] 26)).alloc (.cells #[.int .i64 0, .int .i64 0] 26)) = W0 at HB0 HR4 HR5 ⊢
        clear hW0
        go_wp2_with fail
        with_reducible refine (CC.out _ HB0.out).mono ?_
        rintro e w1 ⟨rfl, hb⟩
        have B1 := rat_trans HB0.out hb
        have R4 := HR4.out.step hb
        have R5 := HR5.out.step hb
        clear hb CC HB0 HR4 HR5
        obtain ⟨q40, q41, q4f⟩ := R4.cells
        obtain ⟨q50, q51, q5f⟩ := R5.cells
        have HB1 := hide B1
        clear R4 R5 B1
        go_wp2
        all_goals
          refine bodyPost_ret (v := .tuple #[.agg #[.int .i64 (0), .int .i64 (0)], .agg #[.int .i64 (0), .int .i64 (0)], .int .i64 3]) (by simp [results, Try.results24, go_sem, *]; try omega) rfl ?_
          refine ⟨rfl, ?_⟩
          repeat (first | with_reducible refine Below.drew ?_ | with_reducible refine below_drewN ?_ _ | with_reducible refine Below.setCell ?_ (by first | (dsimp only; omega) | (simp; omega)) _ | with_reducible refine rat_up ?_ _ | exact HB1.out)
    · have hxr : 0 ≤ x ∧ x ≤ 1073741824 := by omega
      have hx2 : decide (x < 0) = false := by simp; omega
      have hx3 : decide (1073741824 < x) = false := by simp; omega
      have CT := hide (fun W (h : Below w.heap.size w W) => turned_any a n cap X L H W (HG.out W h) HO.out.r HO.out.n1 HO.out.n2)
      have CG := hide (fun W (h : Below w.heap.size w W) => greatest_any a n cap X L H x W (HG.out W h) HO.out.r HO.out.n1 HO.out.n2 hxr)
      by_cases h1 : n = 1
      · subst h1
        by_cases h4 : X 0 = x
        · have hE : atE X L H 1 x = 0 := by unfold atE; rw [if_neg (by rw [hc]; decide), if_neg hx, if_pos rfl, if_pos h4]
          have hpa : PaB X L H 1 := ⟨hc, .inl rfl⟩
          rw [decide_eq_true hpa] at CP
          have h5 : (x != X 0) = false := by simp [h4]
          generalize hA : atA X L H 1 x = A
          generalize hB : atB X L H 1 x = B
          rw [hE]
          have HH := hide (And.intro hA (And.intro hB hE))
          clear hA hB hE hx hpa
          go_enter Try.func24, Try.ntmps24
          go_upto_region 1 with fail
          generalize hW0 : ((w.alloc (.cells #[.int .i64 0, .int .i64 0] 26)).alloc (.cells #[.int .i64 0, .int .i64 0] 26)) = W0 at HB0 HR4 HR5 ⊢
          clear hW0
          go_wp2_with fail
          with_reducible refine (CC.out _ HB0.out).mono ?_
          rintro e w1 ⟨rfl, hb⟩
          have B1 := rat_trans HB0.out hb
          have R4 := HR4.out.step hb
          have R5 := HR5.out.step hb
          clear hb CC HB0 HR4 HR5
          obtain ⟨b, off, rfl, hlt, hc0⟩ := (HG.out w (Below.refl _ _)).at_ (by omega)
          obtain ⟨c0, -, -⟩ := hc0 0 (by omega)
          simp only [Nat.zero_mul, Nat.add_zero] at c0
          replace c0 := (B1.cell (p := ⟨b, off, none⟩) hlt).trans c0
          clear hc0
          
          generalize hxx : X 0 = y at c0 h5
          have HXX := hide hxx
          clear hxx h4
          go_wp2_with fail
          with_reducible refine (CP.out _ B1).mono ?_
          rintro e w2 ⟨rfl, hb⟩
          replace B1 := rat_trans B1 hb
          replace R4 := R4.step hb
          replace R5 := R5.step hb
          
          clear hb c0 CP
          go_wp2_with fail
          with_reducible refine (CT.out _ B1).mono ?_
          rintro e w3 ⟨v, rfl, own, hb⟩
          replace B1 := rat_trans B1 hb
          replace R4 := R4.step hb
          replace R5 := R5.step hb
          clear hb CT
          obtain ⟨pt, ct, hv, hgt, hct⟩ := row_gates own (by omega)
          subst hv
          clear own
          have CGT := hide (greatest_any pt 1 ct X (fun i => -H i) (fun i => -L i) x w3 hgt (turn_ok HO.out).r HO.out.n1 HO.out.n2 hxr)
          clear hgt hct
          go_wp2_with fail
          with_reducible refine CGT.out.mono ?_
          rintro e w4 ⟨U, rfl, hU, hb⟩
          replace B1 := rat_trans B1 hb
          replace R4 := R4.step hb
          replace R5 := R5.step hb
          clear hb CGT
          have HU := hide hU
          have hf := hU.fit.2
          have w1 : wrap64 (-U.num) = -U.num := IntWalk.wrap64_in _ (by omega)
          have w2 : IntKind.i64.wrap (-U.num) = -U.num := IntWalk.i64_in _ (by omega)
          clear hU hf
          go_upto_region 9 with fail
          have E5 : RatAt (w4.alloc (.cells #[.int .i64 U.num, .int .i64 U.den] 26)) w4.heap.size U.num U.den := RatAt.newv rfl
          have hup := (Below.refl w4.heap.size w4).alloc (Nat.le_refl _) (.cells #[.int .i64 U.num, .int .i64 U.den] 26)
          have l4 := R4.lt
          have l5 := R5.lt
          have F4 := R4.step hup
          have F5 := R5.step hup
          replace B1 := rat_trans B1 hup
          clear hup R4 R5
          generalize hW2 : w4.alloc (.cells #[.int .i64 U.num, .int .i64 U.den] 26) = W2 at E5 F4 F5 B1 ⊢
          clear hW2
          generalize w4.heap.size = g at E5 l4 l5 ⊢
          have hz := E5.lt
          have HK := hide (fun W (z : Kp (fun x => x = w.heap.size ∨ x = w.heap.size + 1) W2.heap.size W2 W) => And.intro ((z.cell (k := g) (o := 0) hz (by omega)).trans E5.cells.1) ((z.cell (k := g) (o := 1) hz (by omega)).trans E5.cells.2.1))
          obtain ⟨x0, x1⟩ := HK.out _ (Kp.refl _ _ _)
          have hk1 := Kp.refl (fun x => x = w.heap.size ∨ x = w.heap.size + 1) W2.heap.size W2
          have hkk := hk1
          have hbb := B1
          have z4 := F4
          have z5 := F5
          obtain ⟨q40, q41, q4f⟩ := RatAt.cells z4
          obtain ⟨q50, q51, q5f⟩ := RatAt.cells z5
          clear E5 F4 F5 B1
          go_region_held3 (fun W => W.cell? ⟨g, 0, none⟩ = some (.int .i64 U.num) ∧ W.cell? ⟨g, 1, none⟩ = some (.int .i64 U.den))
            (exact HK.out _ (by repeat (first | with_reducible exact hkk | with_reducible exact hk1 | with_reducible refine Kp.setCell ?_ (by dsimp only; omega) _ | with_reducible refine Kp.drew ?_ | with_reducible refine Kp.drewN ?_ _)))
            (first | (go_at_call 41; with_reducible refine (CG.out _ (by repeat (first | with_reducible exact hbb | with_reducible refine Below.drew ?_ | with_reducible refine below_drewN ?_ _))).mono ?_; rintro e wc ⟨V, rfl, hV, hbc⟩; have hkk : Kp (fun x => x = w.heap.size ∨ x = w.heap.size + 1) W2.heap.size W2 wc := Kp.step (by repeat (first | with_reducible exact hkk | with_reducible refine Kp.drew ?_ | with_reducible refine Kp.drewN ?_ _)) hbc (by first | exact hkk.size | exact hkk.drew.size); have z4 : RatAt wc (w.heap.size) 0 0 := RatAt.step (by first | with_reducible exact z4 | with_reducible exact z4.drew | exact z4) hbc; have z5 : RatAt wc (w.heap.size + 1) 0 0 := RatAt.step (by first | with_reducible exact z5 | with_reducible exact z5.drew | exact z5) hbc; have hbb : Below w.heap.size w wc := rat_trans (by first | with_reducible exact hbb | with_reducible exact hbb.drew | exact hbb) hbc; clear hbc; obtain ⟨q40, q41, q4f⟩ := RatAt.cells z4; obtain ⟨q50, q51, q5f⟩ := RatAt.cells z5; have HV := hide hV; clear hV))
          all_goals
            go_wp2
            refine bodyPost_ret (v := .tuple #[.agg #[.int .i64 (-U.num), .int .i64 (U.den)], .agg #[.int .i64 (V.num), .int .i64 (V.den)], .int .i64 0]) (by simp [results, Try.results24, go_sem, *]; try omega) rfl ?_
            refine ⟨by rw [← HH.out.1, ← HH.out.2.1, (rat_vals HO.out hxr HH.out.2.2 HU.out HV.out).1, (rat_vals HO.out hxr HH.out.2.2 HU.out HV.out).2], ?_⟩
            repeat (first | with_reducible refine Below.drew ?_ | with_reducible refine below_drewN ?_ _ | with_reducible refine Below.setCell ?_ (by first | (dsimp only; omega) | (simp; omega)) _ | with_reducible refine rat_up ?_ _ | exact hbb)
        · have hE : atE X L H 1 x = 11 := by unfold atE; rw [if_neg (by rw [hc]; decide), if_neg hx, if_pos rfl, if_neg h4]
          have hS := at_bad hE (by decide)
          rw [hS.1, hS.2, hE]
          have h5 : (x != X 0) = true := by simp; omega
          clear hE hS hx CP CT CG
          go_enter Try.func24, Try.ntmps24
          go_upto_region 1 with fail
          generalize hW0 : ((w.alloc (.cells #[.int .i64 0, .int .i64 0] 26)).alloc (.cells #[.int .i64 0, .int .i64 0] 26)) = W0 at HB0 HR4 HR5 ⊢
          clear hW0
          go_wp2_with fail
          with_reducible refine (CC.out _ HB0.out).mono ?_
          rintro e w1 ⟨rfl, hb⟩
          have B1 := rat_trans HB0.out hb
          have R4 := HR4.out.step hb
          have R5 := HR5.out.step hb
          clear hb CC HB0 HR4 HR5
          obtain ⟨b, off, rfl, hlt, hc0⟩ := (HG.out w (Below.refl _ _)).at_ (by omega)
          obtain ⟨c0, -, -⟩ := hc0 0 (by omega)
          simp only [Nat.zero_mul, Nat.add_zero] at c0
          replace c0 := (B1.cell (p := ⟨b, off, none⟩) hlt).trans c0
          clear hc0
          
          generalize X 0 = y at *
          clear HG
          obtain ⟨q40, q41, q4f⟩ := R4.cells
          obtain ⟨q50, q51, q5f⟩ := R5.cells
          have HB1 := hide B1
          clear R4 R5 B1
          go_wp2
          all_goals
            refine bodyPost_ret (v := .tuple #[.agg #[.int .i64 (0), .int .i64 (0)], .agg #[.int .i64 (0), .int .i64 (0)], .int .i64 11]) (by simp [results, Try.results24, go_sem, *]; try omega) rfl ?_
            refine ⟨rfl, ?_⟩
            repeat (first | with_reducible refine Below.drew ?_ | with_reducible refine below_drewN ?_ _ | with_reducible refine Below.setCell ?_ (by first | (dsimp only; omega) | (simp; omega)) _ | with_reducible refine rat_up ?_ _ | exact HB1.out)
      · have h2 : 2 ≤ n := by have := HO.out.n1; omega
        have hn1 : ((n : Int) == 1) = false := by simp; omega
        by_cases hle : topR (sl1 X L H) n ≤ botR (sl2 X L H) n
        · have hE : atE X L H n x = 0 := by unfold atE; rw [if_neg (by rw [hc]; decide), if_neg hx, if_neg h1, if_pos hle]
          rw [decide_eq_true (show PaB X L H n from ⟨hc, .inr hle⟩)] at CP
          generalize hA : atA X L H n x = A
          generalize hB : atB X L H n x = B
          rw [hE]
          have HH := hide (And.intro hA (And.intro hB hE))
          clear hA hB hE hx hle h1 HG
          go_enter Try.func24, Try.ntmps24
          go_upto_region 1 with fail
          generalize hW0 : ((w.alloc (.cells #[.int .i64 0, .int .i64 0] 26)).alloc (.cells #[.int .i64 0, .int .i64 0] 26)) = W0 at HB0 HR4 HR5 ⊢
          clear hW0
          go_wp2_with fail
          with_reducible refine (CC.out _ HB0.out).mono ?_
          rintro e w1 ⟨rfl, hb⟩
          have B1 := rat_trans HB0.out hb
          have R4 := HR4.out.step hb
          have R5 := HR5.out.step hb
          clear hb CC HB0 HR4 HR5
          go_wp2_with fail
          with_reducible refine (CP.out _ B1).mono ?_
          rintro e w2 ⟨rfl, hb⟩
          replace B1 := rat_trans B1 hb
          replace R4 := R4.step hb
          replace R5 := R5.step hb
          
          clear hb CP
          go_wp2_with fail
          with_reducible refine (CT.out _ B1).mono ?_
          rintro e w3 ⟨v, rfl, own, hb⟩
          replace B1 := rat_trans B1 hb
          replace R4 := R4.step hb
          replace R5 := R5.step hb
          clear hb CT
          obtain ⟨pt, ct, hv, hgt, hct⟩ := row_gates own (by omega)
          subst hv
          clear own
          have CGT := hide (greatest_any pt n ct X (fun i => -H i) (fun i => -L i) x w3 hgt (turn_ok HO.out).r HO.out.n1 HO.out.n2 hxr)
          clear hgt hct
          go_wp2_with fail
          with_reducible refine CGT.out.mono ?_
          rintro e w4 ⟨U, rfl, hU, hb⟩
          replace B1 := rat_trans B1 hb
          replace R4 := R4.step hb
          replace R5 := R5.step hb
          clear hb CGT
          have HU := hide hU
          have hf := hU.fit.2
          have w1 : wrap64 (-U.num) = -U.num := IntWalk.wrap64_in _ (by omega)
          have w2 : IntKind.i64.wrap (-U.num) = -U.num := IntWalk.i64_in _ (by omega)
          clear hU hf
          go_upto_region 9 with fail
          have E5 : RatAt (w4.alloc (.cells #[.int .i64 U.num, .int .i64 U.den] 26)) w4.heap.size U.num U.den := RatAt.newv rfl
          have hup := (Below.refl w4.heap.size w4).alloc (Nat.le_refl _) (.cells #[.int .i64 U.num, .int .i64 U.den] 26)
          have l4 := R4.lt
          have l5 := R5.lt
          have F4 := R4.step hup
          have F5 := R5.step hup
          replace B1 := rat_trans B1 hup
          clear hup R4 R5
          generalize hW2 : w4.alloc (.cells #[.int .i64 U.num, .int .i64 U.den] 26) = W2 at E5 F4 F5 B1 ⊢
          clear hW2
          generalize w4.heap.size = g at E5 l4 l5 ⊢
          have hz := E5.lt
          have HK := hide (fun W (z : Kp (fun x => x = w.heap.size ∨ x = w.heap.size + 1) W2.heap.size W2 W) => And.intro ((z.cell (k := g) (o := 0) hz (by omega)).trans E5.cells.1) ((z.cell (k := g) (o := 1) hz (by omega)).trans E5.cells.2.1))
          obtain ⟨x0, x1⟩ := HK.out _ (Kp.refl _ _ _)
          have hk1 := Kp.refl (fun x => x = w.heap.size ∨ x = w.heap.size + 1) W2.heap.size W2
          have hkk := hk1
          have hbb := B1
          have z4 := F4
          have z5 := F5
          obtain ⟨q40, q41, q4f⟩ := RatAt.cells z4
          obtain ⟨q50, q51, q5f⟩ := RatAt.cells z5
          clear E5 F4 F5 B1
          go_region_held3 (fun W => W.cell? ⟨g, 0, none⟩ = some (.int .i64 U.num) ∧ W.cell? ⟨g, 1, none⟩ = some (.int .i64 U.den))
            (exact HK.out _ (by repeat (first | with_reducible exact hkk | with_reducible exact hk1 | with_reducible refine Kp.setCell ?_ (by dsimp only; omega) _ | with_reducible refine Kp.drew ?_ | with_reducible refine Kp.drewN ?_ _)))
            (first | (go_at_call 41; with_reducible refine (CG.out _ (by repeat (first | with_reducible exact hbb | with_reducible refine Below.drew ?_ | with_reducible refine below_drewN ?_ _))).mono ?_; rintro e wc ⟨V, rfl, hV, hbc⟩; have hkk : Kp (fun x => x = w.heap.size ∨ x = w.heap.size + 1) W2.heap.size W2 wc := Kp.step (by repeat (first | with_reducible exact hkk | with_reducible refine Kp.drew ?_ | with_reducible refine Kp.drewN ?_ _)) hbc (by first | exact hkk.size | exact hkk.drew.size); have z4 : RatAt wc (w.heap.size) 0 0 := RatAt.step (by first | with_reducible exact z4 | with_reducible exact z4.drew | exact z4) hbc; have z5 : RatAt wc (w.heap.size + 1) 0 0 := RatAt.step (by first | with_reducible exact z5 | with_reducible exact z5.drew | exact z5) hbc; have hbb : Below w.heap.size w wc := rat_trans (by first | with_reducible exact hbb | with_reducible exact hbb.drew | exact hbb) hbc; clear hbc; obtain ⟨q40, q41, q4f⟩ := RatAt.cells z4; obtain ⟨q50, q51, q5f⟩ := RatAt.cells z5; have HV := hide hV; clear hV))
          all_goals
            go_wp2
            refine bodyPost_ret (v := .tuple #[.agg #[.int .i64 (-U.num), .int .i64 (U.den)], .agg #[.int .i64 (V.num), .int .i64 (V.den)], .int .i64 0]) (by simp [results, Try.results24, go_sem, *]; try omega) rfl ?_
            refine ⟨by rw [← HH.out.1, ← HH.out.2.1, (rat_vals HO.out hxr HH.out.2.2 HU.out HV.out).1, (rat_vals HO.out hxr HH.out.2.2 HU.out HV.out).2], ?_⟩
            repeat (first | with_reducible refine Below.drew ?_ | with_reducible refine below_drewN ?_ _ | with_reducible refine Below.setCell ?_ (by first | (dsimp only; omega) | (simp; omega)) _ | with_reducible refine rat_up ?_ _ | exact hbb)
        · have hE : atE X L H n x = 11 := by unfold atE; rw [if_neg (by rw [hc]; decide), if_neg hx, if_neg h1, if_neg hle]
          rw [decide_eq_false (show ¬ PaB X L H n by rintro ⟨_, k | k⟩; exact h1 k; exact hle k)] at CP
          have hS := at_bad hE (by decide)
          rw [hS.1, hS.2, hE]
          clear hE hS hx hle h1 CT CG HG
          go_enter Try.func24, Try.ntmps24
          go_upto_region 1 with fail
          generalize hW0 : ((w.alloc (.cells #[.int .i64 0, .int .i64 0] 26)).alloc (.cells #[.int .i64 0, .int .i64 0] 26)) = W0 at HB0 HR4 HR5 ⊢
          clear hW0
          go_wp2_with fail
          with_reducible refine (CC.out _ HB0.out).mono ?_
          rintro e w1 ⟨rfl, hb⟩
          have B1 := rat_trans HB0.out hb
          have R4 := HR4.out.step hb
          have R5 := HR5.out.step hb
          clear hb CC HB0 HR4 HR5
          go_wp2_with fail
          with_reducible refine (CP.out _ B1).mono ?_
          rintro e w2 ⟨rfl, hb⟩
          replace B1 := rat_trans B1 hb
          replace R4 := R4.step hb
          replace R5 := R5.step hb
          
          clear hb CP
          obtain ⟨q40, q41, q4f⟩ := R4.cells
          obtain ⟨q50, q51, q5f⟩ := R5.cells
          have HB1 := hide B1
          clear R4 R5 B1
          go_wp2
          all_goals
            refine bodyPost_ret (v := .tuple #[.agg #[.int .i64 (0), .int .i64 (0)], .agg #[.int .i64 (0), .int .i64 (0)], .int .i64 11]) (by simp [results, Try.results24, go_sem, *]; try omega) rfl ?_
            refine ⟨rfl, ?_⟩
            repeat (first | with_reducible refine Below.drew ?_ | with_reducible refine below_drewN ?_ _ | with_reducible refine Below.setCell ?_ (by first | (dsimp only; omega) | (simp; omega)) _ | with_reducible refine rat_up ?_ _ | exact HB1.out)
  · have hE : atE X L H n x = chkG X L H n := by unfold atE; rw [if_pos hc]
    have hS := at_bad hE hc
    rw [hS.1, hS.2, hE]
    clear hE hS CP HG
    generalize chkG X L H n = c at *
    have hcb : (c != 0) = true := by simp [hc]
    go_enter Try.func24, Try.ntmps24
    go_upto_region 1 with fail
    generalize hW0 : ((w.alloc (.cells #[.int .i64 0, .int .i64 0] 26)).alloc (.cells #[.int .i64 0, .int .i64 0] 26)) = W0 at HB0 HR4 HR5 ⊢
    clear hW0
    go_wp2_with fail
    with_reducible refine (CC.out _ HB0.out).mono ?_
    rintro e w1 ⟨rfl, hb⟩
    have B1 := rat_trans HB0.out hb
    have R4 := HR4.out.step hb
    have R5 := HR5.out.step hb
    clear hb CC HB0 HR4 HR5
    obtain ⟨q40, q41, q4f⟩ := R4.cells
    obtain ⟨q50, q51, q5f⟩ := R5.cells
    have HB1 := hide B1
    clear R4 R5 B1
    go_wp2
    all_goals
      refine bodyPost_ret (v := .tuple #[.agg #[.int .i64 (0), .int .i64 (0)], .agg #[.int .i64 (0), .int .i64 (0)], .int .i64 c]) (by simp [results, Try.results24, go_sem, *]; try omega) rfl ?_
      refine ⟨rfl, ?_⟩
      repeat (first | with_reducible refine Below.drew ?_ | with_reducible refine below_drewN ?_ _ | with_reducible refine Below.setCell ?_ (by first | (dsimp only; omega) | (simp; omega)) _ | with_reducible refine rat_up ?_ _ | exact HB1.out)
end Go.Proofs.Ytjjhdigbgmbmnaa.Skw
