/- The contracts of the reference's Slopes and Passes: the same as the package's. -/
import Derived.Test.YtjjhdigbgmbmnaaSkxB
import Derived.Test.YtjjhdigbgmbmnaaSkwN
import Derived.Test.YtjjhdigbgmbmnaaQuiet
namespace Go.Proofs.Ytjjhdigbgmbmnaa.Skw
open Go.RowKit Aid Fx
theorem sl_in {X L H : Nat → Int} {n : Nat} (ok : GOk X L H n) {a b : Nat} (hab : a < b) (hb : b < n) : Rat.divInt (-1099511627776) 1 < sl1 X L H a b ∧ sl2 X L H a b < Rat.divInt 1099511627776 1 := by
  have h := ok.inc a b hab hb
  obtain ⟨x1, x2, x3, x4, x5, x6⟩ := ok.r a (by omega)
  obtain ⟨y1, y2, y3, y4, y5, y6⟩ := ok.r b hb
  unfold sl1 sl2
  rw [lt_iff (by omega) (by omega), lt_iff (by omega) (by omega)]
  constructor
  · have : -1099511627776 * (X b - X a) ≤ -1099511627776 * 1 := by omega
    omega
  · have : 1099511627776 * 1 ≤ 1099511627776 * (X b - X a) := by omega
    omega
theorem rs_top {X L H : Nat → Int} {n : Nat} {U : Rat} (ok : GOk X L H n) (h2 : 2 ≤ n) (h : RTop (sl1 X L H) n (Rat.divInt (-1099511627776) 1) (fun _ _ => True) U) : U = topR (sl1 X L H) n :=
  (h.all h2 (fun _ _ _ _ => trivial) (fun a b hab hb => (sl_in ok hab hb).1)).eq
theorem rs_bot {X L H : Nat → Int} {n : Nat} {U : Rat} (ok : GOk X L H n) (h2 : 2 ≤ n) (h : RBot (sl2 X L H) n (Rat.divInt 1099511627776 1) (fun _ _ => True) U) : U = botR (sl2 X L H) n :=
  (h.all h2 (fun _ _ _ _ => trivial) (fun a b hab hb => (sl_in ok hab hb).2)).eq
theorem rs_one {f g : Nat → Nat → Rat} {U V : Rat} (h : RTop f 1 (Rat.divInt (-1099511627776) 1) (fun _ _ => True) U) (k : RBot g 1 (Rat.divInt 1099511627776 1) (fun _ _ => True) V) : ¬ V < U := by
  have e1 : U = Rat.divInt (-1099511627776) 1 := by
    rcases h.i with e | ⟨i, j, h1, h2, _⟩
    · exact e
    · omega
  have e2 : V = Rat.divInt 1099511627776 1 := by
    rcases k.i with e | ⟨i, j, h1, h2, _⟩
    · exact e
    · omega
  rw [e1, e2]
  decide +kernel
set_option maxRecDepth 100000 in
set_option maxHeartbeats 6400000 in
theorem RPasses_any (a : Option Addr) (n cap : Nat) (X L H : Nat → Int) (w : World) (hr : GatesAt w a n X L H) :
    Calls Try.prog 17 #[.slice a n cap] w fun e w' => e = .returned (.bool (decide (PaB X L H n))) ∧ Below w.heap.size w w' := by
  have hn63 := hr.1
  obtain ⟨R, hR⟩ : ∃ R, R = decide (PaB X L H n) := ⟨_, rfl⟩
  rw [← hR]
  have HR := hide hR
  clear hR
  have CC := hide (fun W (h : Below w.heap.size w W) => RCheck_any a n cap X L H W (hr.below h))
  have CS := hide (fun W (h : Below w.heap.size w W) (ok : GOk X L H n) => rslopes_any a n cap X L H W (hr.below h) ok)
  clear hr
  by_cases hc : chkG X L H n = 0
  · rw [hc] at CC
    have HO := hide (chk_ok hc)
    go_enter Try.func17, Try.ntmps17
    go_wp2_with fail
    refine (CC.out _ (Below.refl _ _)).mono ?_
    rintro e w1 ⟨rfl, hb⟩
    clear CC
    go_wp2_with fail
    refine (CS.out _ hb HO.out).mono ?_
    rintro e w2 ⟨U, V, rfl, tt, bb, hb2⟩
    replace hb := rat_trans hb hb2
    clear CS hb2
    have e2 : R = !decide (V < U) := by
      rw [HR.out]
      by_cases h1 : n = 1
      · subst h1
        rw [decide_eq_false (rs_one tt bb), decide_eq_true (show PaB X L H 1 from ⟨hc, .inl rfl⟩)]
        rfl
      · have h2 : 2 ≤ n := by have := HO.out.n1; omega
        rw [rs_top HO.out h2 tt, rs_bot HO.out h2 bb]
        by_cases h3 : botR (sl2 X L H) n < topR (sl1 X L H) n
        · rw [decide_eq_true h3, decide_eq_false]
          · rfl
          · rintro ⟨_, k | k⟩
            · exact h1 k
            · exact absurd h3 (Rat.not_lt.2 k)
        · rw [decide_eq_false h3, decide_eq_true (show PaB X L H n from ⟨hc, .inr (Rat.not_lt.1 h3)⟩)]
          rfl
    have HF := hide (And.intro tt.fit bb.fit)
    clear tt bb
    go_upto_region 4 with fail
    have hup := ((Below.refl w2.heap.size w2).alloc (Nat.le_refl _) (.cells #[.int .i64 U.num, .int .i64 U.den] 26)).alloc (by simp) (.cells #[.int .i64 V.num, .int .i64 V.den] 26)
    have E5 := (RatAt.newv (n := U.num) (d := U.den) (W := w2) rfl).alloc (.cells #[.int .i64 V.num, .int .i64 V.den] 26)
    have E6 : RatAt ((w2.alloc (.cells #[.int .i64 U.num, .int .i64 U.den] 26)).alloc (.cells #[.int .i64 V.num, .int .i64 V.den] 26)) (w2.heap.size + 1) V.num V.den := RatAt.newv1 rfl
    replace hb := rat_trans hb hup
    clear hup
    generalize hW : ((w2.alloc (.cells #[.int .i64 U.num, .int .i64 U.den] 26)).alloc (.cells #[.int .i64 V.num, .int .i64 V.den] 26)) = W2 at E5 E6 hb ⊢
    clear hW
    generalize w2.heap.size = g at E5 E6  ⊢
    obtain ⟨a0, a1, _⟩ := E5.cells
    obtain ⟨a2, a3, _⟩ := E6.cells
    clear E5 E6
    go_wp2_with fail
    with_reducible refine (rless_any V U _ HF.out.2 HF.out.1).mono ?_
    rintro e w3 ⟨rfl, hb3⟩
    have HB := hide (rat_trans hb hb3)
    clear hb hb3 a0 a1 a2 a3
    obtain ⟨c, hcv⟩ : ∃ c, c = decide (V < U) := ⟨_, rfl⟩
    rw [← hcv] at e2 ⊢
    clear HF HR hcv
    subst e2
    go_wp2
    go_ret
    exact ⟨rfl, HB.out⟩
  · have hE : R = false := by rw [HR.out, decide_eq_false_iff_not]; exact fun h => hc h.1
    subst hE
    clear CS HR
    generalize chkG X L H n = c at *
    have hcb : (c != 0) = true := by simp [hc]
    go_enter Try.func17, Try.ntmps17
    go_wp2_with fail
    refine (CC.out _ (Below.refl _ _)).mono ?_
    rintro e w1 ⟨rfl, hb⟩
    go_wp2
    go_ret
    exact ⟨rfl, hb⟩
set_option maxRecDepth 100000 in
set_option maxHeartbeats 6400000 in
theorem RSlopes_any (a : Option Addr) (n cap : Nat) (X L H : Nat → Int) (w : World) (hr : GatesAt w a n X L H) :
    Calls Try.prog 13 #[.slice a n cap] w fun e w' => e = .returned (.tuple #[ratP (slA X L H n), ratP (slB X L H n), .int .i64 (slE X L H n)]) ∧ Below w.heap.size w w' := by
  have hn63 := hr.1
  have HB0 : Hid (Below w.heap.size w ((w.alloc (.cells #[.int .i64 0, .int .i64 0] 26)).alloc (.cells #[.int .i64 0, .int .i64 0] 26))) := hide (((Below.refl _ _).alloc (Nat.le_refl _) _).alloc (by simp) _)
  have HR4 : Hid (RatAt ((w.alloc (.cells #[.int .i64 0, .int .i64 0] 26)).alloc (.cells #[.int .i64 0, .int .i64 0] 26)) w.heap.size 0 0) := hide ((RatAt.fresh rfl).alloc _)
  have HR5 : Hid (RatAt ((w.alloc (.cells #[.int .i64 0, .int .i64 0] 26)).alloc (.cells #[.int .i64 0, .int .i64 0] 26)) (w.heap.size + 1) 0 0) := hide (RatAt.fresh1 rfl)
  have CC := hide (fun W (h : Below w.heap.size w W) => RCheck_any a n cap X L H W (hr.below h))
  have CS := hide (fun W (h : Below w.heap.size w W) (ok : GOk X L H n) => rslopes_any a n cap X L H W (hr.below h) ok)
  simp only [ratP]
  clear hr
  by_cases hc : chkG X L H n = 0
  · rw [hc] at CC
    have HO := hide (chk_ok hc)
    generalize hslA : slA X L H n = A
    generalize hslB : slB X L H n = B
    generalize hslE : slE X L H n = E
    have HH := hide (And.intro hslA (And.intro hslB hslE))
    clear hslA hslB hslE
    go_enter Try.func13, Try.ntmps13
    go_wp2_with fail
    refine (CC.out _ HB0.out).mono ?_
    rintro e w1 ⟨rfl, hb⟩
    have R4 := HR4.out.step hb
    have R5 := HR5.out.step hb
    replace hb := rat_trans HB0.out hb
    clear CC HB0 HR4 HR5
    go_wp2_with fail
    refine (CS.out _ hb HO.out).mono ?_
    rintro e w2 ⟨U, V, rfl, tt, bb, hb2⟩
    replace hb := rat_trans hb hb2
    replace R4 := R4.step hb2
    replace R5 := R5.step hb2
    clear CS hb2
    go_upto_region 5 with fail
    have hup := ((Below.refl w2.heap.size w2).alloc (Nat.le_refl _) (.cells #[.int .i64 U.num, .int .i64 U.den] 26)).alloc (by simp) (.cells #[.int .i64 V.num, .int .i64 V.den] 26)
    have E5 := (RatAt.newv (n := U.num) (d := U.den) (W := w2) rfl).alloc (.cells #[.int .i64 V.num, .int .i64 V.den] 26)
    have E6 : RatAt ((w2.alloc (.cells #[.int .i64 U.num, .int .i64 U.den] 26)).alloc (.cells #[.int .i64 V.num, .int .i64 V.den] 26)) (w2.heap.size + 1) V.num V.den := RatAt.newv1 rfl
    replace hb := rat_trans hb hup
    have l_R4 := R4.lt
    replace R4 := R4.step hup
    have l_R5 := R5.lt
    replace R5 := R5.step hup
    clear hup
    generalize hW : ((w2.alloc (.cells #[.int .i64 U.num, .int .i64 U.den] 26)).alloc (.cells #[.int .i64 V.num, .int .i64 V.den] 26)) = W2 at E5 E6 R4 R5 hb ⊢
    clear hW
    generalize w2.heap.size = g at E5 E6 l_R4 l_R5 ⊢
    obtain ⟨a0, a1, _⟩ := E5.cells
    obtain ⟨a2, a3, _⟩ := E6.cells
    by_cases h1 : n = 1
    · have e2 : E = 11 := by rw [← HH.out.2.2]; unfold slE; rw [if_neg (by rw [hc]; decide), if_pos (.inl h1)]
      subst e2
      have e3 := sl_bad HH.out.2.2 (by decide)
      rw [HH.out.1, HH.out.2.1] at e3
      obtain ⟨e3, e4⟩ := e3
      subst e3 e4
      obtain ⟨z40, z41, z4f⟩ := R4.cells
      obtain ⟨z50, z51, z5f⟩ := R5.cells
      have HB := hide hb
      clear hb E5 E6 tt bb HH R4 R5
      subst h1
      go_wp2
      all_goals
        refine bodyPost_ret (v := .tuple #[.agg #[.int .i64 (0), .int .i64 (0)], .agg #[.int .i64 (0), .int .i64 (0)], .int .i64 11]) (by simp [results, Try.results13, go_sem, *]; try omega) rfl ?_
        refine ⟨rfl, ?_⟩
        repeat (first | with_reducible refine Below.drew ?_ | with_reducible refine below_drewN ?_ _ | with_reducible refine Below.setCell ?_ (by first | (dsimp only; omega) | (simp; omega)) _ | with_reducible refine rat_up ?_ _ | exact HB.out)
    · have h2 : 2 ≤ n := by have := HO.out.n1; omega
      have hn1 : ((n : Int) == 1) = false := by simp; omega
      have e1 := hide (rs_top HO.out h2 tt)
      have e2 := hide (rs_bot HO.out h2 bb)
      have HF := hide (And.intro tt.fit bb.fit)
      have HE5 := hide E5
      have HE6 := hide E6
      have HR4 := hide R4
      have HR5 := hide R5
      clear tt bb E5 E6 R4 R5
      go_wp2_with fail
      with_reducible refine (rless_any V U _ HF.out.2 HF.out.1).mono ?_
      rintro e w3 ⟨rfl, hb3⟩
      replace hb := rat_trans hb hb3
      have R4 := HR4.out.step hb3
      have R5 := HR5.out.step hb3
      have E5 := HE5.out.step hb3
      have E6 := HE6.out.step hb3
      clear hb3 a0 a1 a2 a3 HR4 HR5 HE5 HE6 HF
      have hz1 := E5.lt
      have hz2 := E6.lt
      obtain ⟨z40, z41, z4f⟩ := R4.cells
      obtain ⟨z50, z51, z5f⟩ := R5.cells
      obtain ⟨a0, a1, _⟩ := E5.cells
      obtain ⟨a2, a3, _⟩ := E6.cells
      by_cases h3 : V < U
      · have e4 : E = 11 := by rw [← HH.out.2.2]; unfold slE; rw [if_neg (by rw [hc]; decide), if_pos (.inr (by rw [← e1.out, ← e2.out]; exact Rat.not_le.2 h3))]
        subst e4
        have e3 := sl_bad HH.out.2.2 (by decide)
        rw [HH.out.1, HH.out.2.1] at e3
        obtain ⟨e3, e4⟩ := e3
        subst e3 e4
        rw [decide_eq_true h3]
        have HB := hide hb
        clear hb E5 E6 HH R4 R5 h3 e1 e2
        go_wp2
        all_goals
          refine bodyPost_ret (v := .tuple #[.agg #[.int .i64 (0), .int .i64 (0)], .agg #[.int .i64 (0), .int .i64 (0)], .int .i64 11]) (by simp [results, Try.results13, go_sem, *]; try omega) rfl ?_
          refine ⟨rfl, ?_⟩
          repeat (first | with_reducible refine Below.drew ?_ | with_reducible refine below_drewN ?_ _ | with_reducible refine Below.setCell ?_ (by first | (dsimp only; omega) | (simp; omega)) _ | with_reducible refine rat_up ?_ _ | exact HB.out)
      · have e4 : E = 0 := by rw [← HH.out.2.2]; unfold slE; rw [if_neg (by rw [hc]; decide), if_neg (by rw [← e1.out, ← e2.out]; rintro (k | k); exact h1 k; exact k (Rat.not_lt.1 h3))]
        subst e4
        have e5 : A = (U.num, (U.den : Int)) := by rw [← HH.out.1]; unfold slA; rw [if_pos HH.out.2.2, e1.out]
        have e6 : B = (V.num, (V.den : Int)) := by rw [← HH.out.2.1]; unfold slB; rw [if_pos HH.out.2.2, e2.out]
        subst e5 e6
        rw [decide_eq_false h3]
        have HB := hide hb
        have HK := hide (fun W (z : Kp (fun x => x = w.heap.size ∨ x = w.heap.size + 1) w3.heap.size w3 W) => And.intro ((z.cell (k := g) (o := 0) hz1 (by omega)).trans a0) (And.intro ((z.cell (k := g) (o := 1) hz1 (by omega)).trans a1) (And.intro ((z.cell (k := g + 1) (o := 0) hz2 (by omega)).trans a2) ((z.cell (k := g + 1) (o := 1) hz2 (by omega)).trans a3))))
        clear hb E5 E6 HH R4 R5 h3 e1 e2
        go_upto_region 7 with fail
        go_region_held3 (fun W => W.cell? ⟨g, 0, none⟩ = some (.int .i64 U.num) ∧ W.cell? ⟨g, 1, none⟩ = some (.int .i64 U.den) ∧ W.cell? ⟨g + 1, 0, none⟩ = some (.int .i64 V.num) ∧ W.cell? ⟨g + 1, 1, none⟩ = some (.int .i64 V.den))
          (exact HK.out _ (by repeat (first | exact Kp.refl _ _ _ | with_reducible refine Kp.setCell ?_ (by dsimp only; omega) _ | with_reducible refine Kp.drew ?_ | with_reducible refine Kp.drewN ?_ _))) (first | fail)
        all_goals
          go_wp2
          refine bodyPost_ret (v := .tuple #[.agg #[.int .i64 (U.num), .int .i64 (U.den)], .agg #[.int .i64 (V.num), .int .i64 (V.den)], .int .i64 0]) (by simp [results, Try.results13, go_sem, *]; try omega) rfl ?_
          refine ⟨rfl, ?_⟩
          repeat (first | with_reducible refine Below.drew ?_ | with_reducible refine below_drewN ?_ _ | with_reducible refine Below.setCell ?_ (by first | (dsimp only; omega) | (simp; omega)) _ | with_reducible refine rat_up ?_ _ | exact HB.out)
  · have hE : slE X L H n = chkG X L H n := by unfold slE; rw [if_pos hc]
    have hS := sl_bad hE hc
    rw [hS.1, hS.2, hE]
    clear hE hS CS
    generalize chkG X L H n = c at *
    have hcb : (c != 0) = true := by simp [hc]
    go_enter Try.func13, Try.ntmps13
    go_wp2_with fail
    refine (CC.out _ HB0.out).mono ?_
    rintro e w1 ⟨rfl, hb⟩
    have B1 := rat_trans HB0.out hb
    obtain ⟨z40, z41, z4f⟩ := (HR4.out.step hb).cells
    obtain ⟨z50, z51, z5f⟩ := (HR5.out.step hb).cells
    clear hb
    have HB1 := hide B1
    clear B1
    go_wp2
    all_goals
      refine bodyPost_ret (v := .tuple #[.agg #[.int .i64 (0), .int .i64 (0)], .agg #[.int .i64 (0), .int .i64 (0)], .int .i64 c]) (by simp [results, Try.results13, go_sem, *]; try omega) rfl ?_
      refine ⟨rfl, ?_⟩
      repeat (first | with_reducible refine Below.drew ?_ | with_reducible refine below_drewN ?_ _ | with_reducible refine Below.setCell ?_ (by first | (dsimp only; omega) | (simp; omega)) _ | with_reducible refine rat_up ?_ _ | exact HB1.out)
end Go.Proofs.Ytjjhdigbgmbmnaa.Skw
