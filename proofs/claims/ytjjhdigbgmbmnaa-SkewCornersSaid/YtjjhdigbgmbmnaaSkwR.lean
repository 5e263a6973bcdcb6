/- The contract of skew.At. -/
import Derived.Test.YtjjhdigbgmbmnaaSkwQ
import Derived.Test.YtjjhdigbgmbmnaaSkwK
namespace Go.Proofs.Ytjjhdigbgmbmnaa.Skw
open Go.RowKit Aid Fx
def va1 (X L H : Nat → Int) (x : Int) (i j : Nat) : Rat := Rat.divInt (vN1 (X i) (L i) (H i) (X j) (L j) (H j) x) (X j - X i)
def va2 (X L H : Nat → Int) (x : Int) (i j : Nat) : Rat := Rat.divInt (vN2 (X i) (L i) (H i) (X j) (L j) (H j) x) (X j - X i)
/-- the error of At, and its two bounds -/
noncomputable def atE (X L H : Nat → Int) (n : Nat) (x : Int) : Int := if chkG X L H n ≠ 0 then chkG X L H n else if x < 0 ∨ 1073741824 < x then 3 else if n = 1 then (if X 0 = x then 0 else 11) else if topR (sl1 X L H) n ≤ botR (sl2 X L H) n then 0 else 11
noncomputable def atA (X L H : Nat → Int) (n : Nat) (x : Int) : Int × Int := if atE X L H n x = 0 then (if n = 1 then (L 0, 1) else ((topR (va1 X L H x) n).num, ((topR (va1 X L H x) n).den : Int))) else (0, 0)
noncomputable def atB (X L H : Nat → Int) (n : Nat) (x : Int) : Int × Int := if atE X L H n x = 0 then (if n = 1 then (H 0, 1) else ((botR (va2 X L H x) n).num, ((botR (va2 X L H x) n).den : Int))) else (0, 0)
theorem at_bad {X L H : Nat → Int} {n : Nat} {x c : Int} (h : atE X L H n x = c) (hc : c ≠ 0) : atA X L H n x = (0, 0) ∧ atB X L H n x = (0, 0) := by
  unfold atA atB
  rw [if_neg (by rw [h]; exact hc), if_neg (by rw [h]; exact hc)]
  exact ⟨rfl, rfl⟩
structure VaB (X L H : Nat → Int) (n : Nat) (x p q r s : Int) : Prop where
  top : IsTop (va1 X L H x) n (Rat.divInt p q)
  bot : IsBot (va2 X L H x) n (Rat.divInt r s)
  q1 : 1 ≤ q ∧ q ≤ 1073741824
  s1 : 1 ≤ s ∧ s ≤ 1073741824
  p1 : -2305843009213693952 ≤ p ∧ p ≤ 2305843009213693952
  r1 : -2305843009213693952 ≤ r ∧ r ≤ 2305843009213693952
theorem at_good {X L H : Nat → Int} {n : Nat} {x p q r s : Int} (h : VaB X L H n x p q r s) (h2 : 2 ≤ n) (hE : atE X L H n x = 0) : atA X L H n x = ((Rat.divInt p q).num, ((Rat.divInt p q).den : Int)) ∧ atB X L H n x = ((Rat.divInt r s).num, ((Rat.divInt r s).den : Int)) := by
  unfold atA atB
  rw [if_pos hE, if_pos hE, if_neg (by omega), if_neg (by omega), ← h.top.eq, ← h.bot.eq]
  exact ⟨rfl, rfl⟩
theorem ends_va (a : Option Addr) (n cap : Nat) (X L H : Nat → Int) (x : Int) (gx : Nat) (w : World) (hr : GatesAt w a n X L H) (ok : GOk X L H n) (hn2 : 2 ≤ n) (hcap : n ≤ cap) (hx : 0 ≤ x ∧ x ≤ 1073741824) (cx : w.cell? ⟨gx, 0, none⟩ = some (.int .i64 x)) (lx : gx < w.heap.size) :
    Calls Try.prog 38 #[.slice a n cap, .func (.func 39) #[] #[.pointer (some ⟨gx, 0, none⟩)]] w fun e w' => ∃ p q r s, e = .returned (.tuple #[.agg #[.int .i64 p, .int .i64 q], .agg #[.int .i64 r, .int .i64 s]]) ∧ VaB X L H n x p q r s ∧ Below w.heap.size w w' := by
  refine (ends_at gx a n cap X L H (fun i j => vN1 (X i) (L i) (H i) (X j) (L j) (H j) x) (fun i j => X j - X i) (fun i j => vN2 (X i) (L i) (H i) (X j) (L j) (H j) x) (fun i j => X j - X i) w hr hn2 hcap ?_ ?_).mono ?_
  · intro W hb i j hij hj
    exact at1_any (X i) (L i) (H i) (X j) (L j) (H j) x gx W ((hb.cell (p := ⟨gx, 0, none⟩) lx).trans cx) (Nat.lt_of_lt_of_le lx hb.size) (ok.r i (by omega)) (ok.r j hj) hx
  · intro i j hij hj
    have h1 := ok.inc i j hij hj
    have hb := vN_bd (ok.r i (by omega)) (ok.r j hj) hx
    obtain ⟨x1, x2, x3, x4, x5, x6⟩ := ok.r i (by omega)
    obtain ⟨y1, y2, y3, y4, y5, y6⟩ := ok.r j hj
    omega
  · rintro e w1 ⟨p, q, r, s, rfl, tt, bb, hb⟩
    refine ⟨p, q, r, s, rfl, ?_, hb⟩
    have t2 := tt.all (fun _ _ _ _ => trivial)
    have b2 := bb.all (fun _ _ _ _ => trivial)
    obtain ⟨i, j, hij, hj, e1, e2⟩ := tt.i
    obtain ⟨i', j', hij', hj', e3, e4⟩ := bb.i
    have h1 := ok.inc i j hij hj
    have h2 := ok.inc i' j' hij' hj'
    have m1 := vN_bd (ok.r i (by omega)) (ok.r j hj) hx
    have m2 := vN_bd (ok.r i' (by omega)) (ok.r j' hj') hx
    obtain ⟨x1, x2, x3, x4, x5, x6⟩ := ok.r i (by omega)
    obtain ⟨y1, y2, y3, y4, y5, y6⟩ := ok.r j hj
    obtain ⟨z1, z2, z3, z4, z5, z6⟩ := ok.r i' (by omega)
    obtain ⟨u1, u2, u3, u4, u5, u6⟩ := ok.r j' hj'
    exact ⟨t2, b2, by omega, by omega, by omega, by omega⟩
set_option maxRecDepth 100000 in
set_option maxHeartbeats 6400000 in
theorem At_any (a : Option Addr) (n cap : Nat) (X L H : Nat → Int) (x : Int) (w : World) (hr : GatesAt w a n X L H) (hcap : n ≤ cap) :
    Calls Try.prog 23 #[.slice a n cap, .int .i64 x] w fun e w' => e = .returned (.tuple #[ratP (atA X L H n x), ratP (atB X L H n x), .int .i64 (atE X L H n x)]) ∧ Below w.heap.size w w' := by
  have hn63 := hr.1
  have HB0 : Hid (Below w.heap.size w (((w.alloc (.cells #[.int .i64 x] 3)).alloc (.cells #[.int .i64 0, .int .i64 0] 26)).alloc (.cells #[.int .i64 0, .int .i64 0] 26))) := hide ((((Below.refl _ _).alloc (Nat.le_refl _) _).alloc (by simp) _).alloc (by simp; omega) _)
  have HR4 : Hid (RatAt (((w.alloc (.cells #[.int .i64 x] 3)).alloc (.cells #[.int .i64 0, .int .i64 0] 26)).alloc (.cells #[.int .i64 0, .int .i64 0] 26)) (w.heap.size + 1) 0 0) := hide ((RatAt.fresh (by simp)).alloc _)
  have HR5 : Hid (RatAt (((w.alloc (.cells #[.int .i64 x] 3)).alloc (.cells #[.int .i64 0, .int .i64 0] 26)).alloc (.cells #[.int .i64 0, .int .i64 0] 26)) (w.heap.size + 1 + 1) 0 0) := hide (RatAt.fresh (by simp))
  have HX : Hid ((((w.alloc (.cells #[.int .i64 x] 3)).alloc (.cells #[.int .i64 0, .int .i64 0] 26)).alloc (.cells #[.int .i64 0, .int .i64 0] 26)).cell? ⟨w.heap.size, 0, none⟩ = some (.int .i64 x)) := hide (by simp [go_sem])
  have HLX : Hid (w.heap.size < (((w.alloc (.cells #[.int .i64 x] 3)).alloc (.cells #[.int .i64 0, .int .i64 0] 26)).alloc (.cells #[.int .i64 0, .int .i64 0] 26)).heap.size) := hide (by simp; omega)
  have CC := hide (fun W (h : Below w.heap.size w W) => Check_any a n cap X L H W (hr.below h))
  have CS := hide (fun W (h : Below w.heap.size w W) (ok : GOk X L H n) (h2 : 2 ≤ n) => slopes_any a n cap X L H W (hr.below h) ok h2 hcap)
  have CV := hide (fun W (h : Below w.heap.size w W) (ok : GOk X L H n) (h2 : 2 ≤ n) (hx : 0 ≤ x ∧ x ≤ 1073741824) => ends_va a n cap X L H x w.heap.size W (hr.below h) ok h2 hcap hx)
  have HG := hide (fun W (h : Below w.heap.size w W) => hr.below h)
  simp only [ratP]
  clear hr
  by_cases hc : chkG X L H n = 0
  · rw [hc] at CC
    have HO := hide (chk_ok hc)
    by_cases hx : x < 0 ∨ 1073741824 < x
    · have hE : atE X L H n x = 3 := by unfold atE; rw [if_neg (by rw [hc]; decide), if_pos hx]
      have hS := at_bad hE (by decide)
      rw [hS.1, hS.2, hE]
      clear hE hS CS CV HG
      by_cases hx0 : x < 0
      · clear hx
        go_enter Try.func23, Try.ntmps23
        go_upto_region 1 with fail
        generalize hW0 : (((w.alloc (.cells #[.int .i64 x] 3)).alloc (.cells #[.int .i64 0, .int .i64 0] 26)).alloc (.cells #[.int .i64 0, .int .i64 0] 26)) = W0 at HB0 HX HR4 HR5 HLX ⊢
        clear hW0
        go_wp2_with fail
        refine (CC.out _ HB0.out).mono ?_
        rintro e w1 ⟨rfl, hb⟩
        have B1 := rat_trans HB0.out hb
        have R4 := HR4.out.step hb
        have R5 := HR5.out.step hb
        have cx : w1.cell? ⟨w.heap.size, 0, none⟩ = some (.int .i64 x) := (hb.cell (p := ⟨w.heap.size, 0, none⟩) HLX.out).trans HX.out
        have lx : w.heap.size < w1.heap.size := Nat.lt_of_lt_of_le HLX.out hb.size
        clear hb CC HB0 HR4 HR5 HX HLX
        obtain ⟨q40, q41, q4f⟩ := R4.cells
        obtain ⟨q50, q51, q5f⟩ := R5.cells
        have HB1 := hide B1
        clear R4 R5 B1
        go_wp2
        all_goals
          refine bodyPost_ret (v := .tuple #[.agg #[.int .i64 (0), .int .i64 (0)], .agg #[.int .i64 (0), .int .i64 (0)], .int .i64 3]) (by simp [results, Try.results23, go_sem, *]; try omega) rfl ?_
          refine ⟨rfl, ?_⟩
          repeat (first | with_reducible refine Below.drew ?_ | with_reducible refine below_drewN ?_ _ | with_reducible refine Below.setCell ?_ (by first | (dsimp only; omega) | (simp; omega)) _ | with_reducible refine rat_up ?_ _ | exact HB1.out)
      · have hx1 : 1073741824 < x := by omega
        have hx2 : decide (x < 0) = false := by simp; omega
        clear hx hx0
        go_enter Try.func23, Try.ntmps23
        go_upto_region 1 with fail
        generalize hW0 : (((w.alloc (.cells #[.int .i64 x] 3)).alloc (.cells #[.int .i64 0, .int .i64 0] 26)).alloc (.cells #[.int .i64 0, .int .i64 0] 26)) = W0 at HB0 HX HR4 HR5 HLX ⊢
        clear hW0
        go_wp2_with fail
        refine (CC.out _ HB0.out).mono ?_
        rintro e w1 ⟨rfl, hb⟩
        have B1 := rat_trans HB0.out hb
        have R4 := HR4.out.step hb
        have R5 := HR5.out.step hb
        have cx : w1.cell? ⟨w.heap.size, 0, none⟩ = some (.int .i64 x) := (hb.cell (p := ⟨w.heap.size, 0, none⟩) HLX.out).trans HX.out
        have lx : w.heap.size < w1.heap.size := Nat.lt_of_lt_of_le HLX.out hb.size
        clear hb CC HB0 HR4 HR5 HX HLX
        obtain ⟨q40, q41, q4f⟩ := R4.cells
        obtain ⟨q50, q51, q5f⟩ := R5.cells
        have HB1 := hide B1
        clear R4 R5 B1
        go_wp2
        all_goals
          refine bodyPost_ret (v := .tuple #[.agg #[.int .i64 (0), .int .i64 (0)], .agg #[.int .i64 (0), .int .i64 (0)], .int .i64 3]) (by simp [results, Try.results23, go_sem, *]; try omega) rfl ?_
          refine ⟨rfl, ?_⟩
          repeat (first | with_reducible refine Below.drew ?_ | with_reducible refine below_drewN ?_ _ | with_reducible refine Below.setCell ?_ (by first | (dsimp only; omega) | (simp; omega)) _ | with_reducible refine rat_up ?_ _ | exact HB1.out)
    · have hxr : 0 ≤ x ∧ x ≤ 1073741824 := by omega
      have hx2 : decide (x < 0) = false := by simp; omega
      have hx3 : decide (1073741824 < x) = false := by simp; omega
      by_cases h1 : n = 1
      · clear CS CV
        subst h1
        by_cases h4 : X 0 = x
        · have hE : atE X L H 1 x = 0 := by unfold atE; rw [if_neg (by rw [hc]; decide), if_neg hx, if_pos rfl, if_pos h4]
          have hA : atA X L H 1 x = (L 0, 1) := by unfold atA; rw [if_pos hE, if_pos rfl]
          have hB : atB X L H 1 x = (H 0, 1) := by unfold atB; rw [if_pos hE, if_pos rfl]
          rw [hA, hB, hE]
          clear hA hB hE hx
          go_enter Try.func23, Try.ntmps23
          go_upto_region 1 with fail
          generalize hW0 : (((w.alloc (.cells #[.int .i64 x] 3)).alloc (.cells #[.int .i64 0, .int .i64 0] 26)).alloc (.cells #[.int .i64 0, .int .i64 0] 26)) = W0 at HB0 HX HR4 HR5 HLX ⊢
          clear hW0
          go_wp2_with fail
          refine (CC.out _ HB0.out).mono ?_
          rintro e w1 ⟨rfl, hb⟩
          have B1 := rat_trans HB0.out hb
          have R4 := HR4.out.step hb
          have R5 := HR5.out.step hb
          have cx : w1.cell? ⟨w.heap.size, 0, none⟩ = some (.int .i64 x) := (hb.cell (p := ⟨w.heap.size, 0, none⟩) HLX.out).trans HX.out
          have lx : w.heap.size < w1.heap.size := Nat.lt_of_lt_of_le HLX.out hb.size
          clear hb CC HB0 HR4 HR5 HX HLX
          obtain ⟨b, off, rfl, hlt, hc0⟩ := (HG.out w (Below.refl _ _)).at_ (by omega)
          obtain ⟨c0, c1, c2⟩ := hc0 0 (by omega)
          simp only [Nat.zero_mul, Nat.add_zero] at c0 c1 c2
          replace c0 := (B1.cell (p := ⟨b, off, none⟩) hlt).trans c0
          replace c1 := (B1.cell (p := ⟨b, off + 1, none⟩) hlt).trans c1
          replace c2 := (B1.cell (p := ⟨b, off + 2, none⟩) hlt).trans c2
          clear hc0 HG
          rw [h4] at c0
          go_upto_region 7 with fail
          go_quiet (fail)
          obtain ⟨q40, q41, q4f⟩ := R4.cells
          obtain ⟨q50, q51, q5f⟩ := R5.cells
          have hz := R5.lt
          have HK := hide (fun W (z : Kp (fun x => x = w.heap.size + 1 ∨ x = w.heap.size + 1 + 1) w1.heap.size w1 W) => And.intro ((z.cell (k := b) (o := off + 1) (by omega) (by omega)).trans c1) ((z.cell (k := b) (o := off + 2) (by omega) (by omega)).trans c2))
          have HB1 := hide B1
          clear R4 R5 B1 c0 cx lx
          go_upto_region 9 with fail
          go_region_held3 (fun W => W.cell? ⟨b, off + 1, none⟩ = some (.int .i64 (L 0)) ∧ W.cell? ⟨b, off + 2, none⟩ = some (.int .i64 (H 0)))
            (exact HK.out _ (by repeat (first | exact Kp.refl _ _ _ | with_reducible refine Kp.setCell ?_ (by dsimp only; omega) _ | with_reducible refine Kp.drew ?_ | with_reducible refine Kp.drewN ?_ _)))
            (first | fail)
          all_goals
            go_wp2
            refine bodyPost_ret (v := .tuple #[.agg #[.int .i64 (L 0), .int .i64 (1)], .agg #[.int .i64 (H 0), .int .i64 (1)], .int .i64 0]) (by simp [results, Try.results23, go_sem, *]; try omega) rfl ?_
            refine ⟨rfl, ?_⟩
            repeat (first | with_reducible refine Below.drew ?_ | with_reducible refine below_drewN ?_ _ | with_reducible refine Below.setCell ?_ (by first | (dsimp only; omega) | (simp; omega)) _ | with_reducible refine rat_up ?_ _ | exact HB1.out)
        · have hE : atE X L H 1 x = 11 := by unfold atE; rw [if_neg (by rw [hc]; decide), if_neg hx, if_pos rfl, if_neg h4]
          have hS := at_bad hE (by decide)
          rw [hS.1, hS.2, hE]
          clear hE hS hx
          have h5 : (X 0 != x) = true := by simp [h4]
          clear h4
          go_enter Try.func23, Try.ntmps23
          go_upto_region 1 with fail
          generalize hW0 : (((w.alloc (.cells #[.int .i64 x] 3)).alloc (.cells #[.int .i64 0, .int .i64 0] 26)).alloc (.cells #[.int .i64 0, .int .i64 0] 26)) = W0 at HB0 HX HR4 HR5 HLX ⊢
          clear hW0
          go_wp2_with fail
          refine (CC.out _ HB0.out).mono ?_
          rintro e w1 ⟨rfl, hb⟩
          have B1 := rat_trans HB0.out hb
          have R4 := HR4.out.step hb
          have R5 := HR5.out.step hb
          have cx : w1.cell? ⟨w.heap.size, 0, none⟩ = some (.int .i64 x) := (hb.cell (p := ⟨w.heap.size, 0, none⟩) HLX.out).trans HX.out
          have lx : w.heap.size < w1.heap.size := Nat.lt_of_lt_of_le HLX.out hb.size
          clear hb CC HB0 HR4 HR5 HX HLX
          obtain ⟨b, off, rfl, hlt, hc0⟩ := (HG.out w (Below.refl _ _)).at_ (by omega)
          obtain ⟨c0, c1, c2⟩ := hc0 0 (by omega)
          simp only [Nat.zero_mul, Nat.add_zero] at c0 c1 c2
          replace c0 := (B1.cell (p := ⟨b, off, none⟩) hlt).trans c0
          replace c1 := (B1.cell (p := ⟨b, off + 1, none⟩) hlt).trans c1
          replace c2 := (B1.cell (p := ⟨b, off + 2, none⟩) hlt).trans c2
          clear hc0 HG
          generalize X 0 = y at c0 h5
          go_upto_region 7 with fail
          go_quiet (fail)
          obtain ⟨q40, q41, q4f⟩ := R4.cells
          obtain ⟨q50, q51, q5f⟩ := R5.cells
          have HB1 := hide B1
          clear R4 R5 B1
          go_wp2
          all_goals
            refine bodyPost_ret (v := .tuple #[.agg #[.int .i64 (0), .int .i64 (0)], .agg #[.int .i64 (0), .int .i64 (0)], .int .i64 11]) (by simp [results, Try.results23, go_sem, *]; try omega) rfl ?_
            refine ⟨rfl, ?_⟩
            repeat (first | with_reducible refine Below.drew ?_ | with_reducible refine below_drewN ?_ _ | with_reducible refine Below.setCell ?_ (by first | (dsimp only; omega) | (simp; omega)) _ | with_reducible refine rat_up ?_ _ | exact HB1.out)
      · have h2 : 2 ≤ n := by have := HO.out.n1; omega
        have hn1 : ((n : Int) == 1) = false := by simp; omega
        generalize hA : atA X L H n x = A
        generalize hB : atB X L H n x = B
        generalize hE : atE X L H n x = E
        have HH := hide (And.intro hA (And.intro hB hE))
        clear hA hB hE
        go_enter Try.func23, Try.ntmps23
        go_upto_region 1 with fail
        generalize hW0 : (((w.alloc (.cells #[.int .i64 x] 3)).alloc (.cells #[.int .i64 0, .int .i64 0] 26)).alloc (.cells #[.int .i64 0, .int .i64 0] 26)) = W0 at HB0 HX HR4 HR5 HLX ⊢
        clear hW0
        go_wp2_with fail
        refine (CC.out _ HB0.out).mono ?_
        rintro e w1 ⟨rfl, hb⟩
        have B1 := rat_trans HB0.out hb
        have R4 := HR4.out.step hb
        have R5 := HR5.out.step hb
        have cx : w1.cell? ⟨w.heap.size, 0, none⟩ = some (.int .i64 x) := (hb.cell (p := ⟨w.heap.size, 0, none⟩) HLX.out).trans HX.out
        have lx : w.heap.size < w1.heap.size := Nat.lt_of_lt_of_le HLX.out hb.size
        clear hb CC HB0 HR4 HR5 HX HLX
        go_wp2_with fail
        refine (CS.out _ B1 HO.out h2).mono ?_
        rintro e w2 ⟨p, q, r, s, rfl, SB, hb⟩
        have B2 := rat_trans B1 hb
        have S4 := R4.step hb
        have S5 := R5.step hb
        have dx : w2.cell? ⟨w.heap.size, 0, none⟩ = some (.int .i64 x) := (hb.cell (p := ⟨w.heap.size, 0, none⟩) lx).trans cx
        have lx2 : w.heap.size < w2.heap.size := Nat.lt_of_lt_of_le lx hb.size
        clear R4 R5 B1 CS hb cx lx
        have e2 : E = if Rat.divInt p q ≤ Rat.divInt r s then 0 else 11 := by rw [← HH.out.2.2]; unfold atE; rw [if_neg (by rw [hc]; decide), if_neg hx, if_neg h1, SB.top.eq, SB.bot.eq]
        clear SB
        by_cases hle : Rat.divInt p q ≤ Rat.divInt r s
        · rw [if_pos hle] at e2
          subst e2
          rw [decide_eq_true hle]
          clear hle hx h1
          go_upto_region 13 with fail
          have hup := ((Below.refl w2.heap.size w2).alloc (Nat.le_refl _) (.cells #[.int .i64 p, .int .i64 q] 26)).alloc (by simp) (.cells #[.int .i64 r, .int .i64 s] 26)
          have T4 := S4.step hup
          have T5 := S5.step hup
          have B3 := rat_trans B2 hup
          have cx := (hup.cell (p := ⟨w.heap.size, 0, none⟩) lx2).trans dx
          have lx := Nat.lt_of_lt_of_le lx2 hup.size
          clear hup S4 S5 B2 dx lx2
          generalize hW2 : ((w2.alloc (.cells #[.int .i64 p, .int .i64 q] 26)).alloc (.cells #[.int .i64 r, .int .i64 s] 26)) = W3 at T4 T5 B3 cx lx ⊢
          clear hW2
          generalize w2.heap.size = g2
          go_wp2_with fail
          refine (CV.out _ B3 HO.out h2 hxr cx lx).mono ?_
          rintro e w4 ⟨p, q, r, s, rfl, VB, hb⟩
          have B2 := rat_trans B3 hb
          have S4 := T4.step hb
          have S5 := T5.step hb
          have l4 := S4.lt
          have l5 := S5.lt
          clear hb T4 T5 B3 cx lx CV
          have e3 := at_good VB h2 HH.out.2.2
          rw [HH.out.1, HH.out.2.1] at e3
          obtain ⟨e3, e4⟩ := e3
          subst e3 e4
          have q1 := VB.q1
          have s1 := VB.s1
          have p1 := VB.p1
          have r1 := VB.r1
          clear VB HH HG
          go_upto_region 14 with fail
          have E5 := (RatAt.newv (n := p) (d := q) (W := w4) rfl).alloc (.cells #[.int .i64 r, .int .i64 s] 26)
          have E6 : RatAt ((w4.alloc (.cells #[.int .i64 p, .int .i64 q] 26)).alloc (.cells #[.int .i64 r, .int .i64 s] 26)) (w4.heap.size + 1) r s := RatAt.newv1 rfl
          have hup := ((Below.refl w4.heap.size w4).alloc (Nat.le_refl _) (.cells #[.int .i64 p, .int .i64 q] 26)).alloc (by simp) (.cells #[.int .i64 r, .int .i64 s] 26)
          have F4 := S4.step hup
          have F5 := S5.step hup
          replace B2 := B2.trans (hup.mono B2.size)
          clear hup S4 S5
          generalize hW2 : ((w4.alloc (.cells #[.int .i64 p, .int .i64 q] 26)).alloc (.cells #[.int .i64 r, .int .i64 s] 26)) = W2 at E5 E6 F4 F5 B2 ⊢
          clear hW2
          generalize hg : w4.heap.size = g at E5 E6 l4 l5 ⊢
          clear hg
          have HL := hide (fun W => lowest_any p q W ⟨by omega, by omega⟩ ⟨by omega, by omega⟩)
          have HM := hide (fun W => lowest_any r s W ⟨by omega, by omega⟩ ⟨by omega, by omega⟩)
          have HB2 := hide B2
          have l5 := E5.lt
          have l6 := E6.lt
          have HK := hide (fun W (z : Kp (fun x => x = w.heap.size + 1 ∨ x = w.heap.size + 1 + 1) W2.heap.size W2 W) => And.intro ((z.cell (k := g) (o := 0) l5 (by omega)).trans E5.cells.1) (And.intro ((z.cell (k := g) (o := 1) l5 (by omega)).trans E5.cells.2.1) (And.intro ((z.cell (k := g + 1) (o := 0) l6 (by omega)).trans E6.cells.1) ((z.cell (k := g + 1) (o := 1) l6 (by omega)).trans E6.cells.2.1))))
          obtain ⟨x0, x1, x2, x3⟩ := HK.out _ (Kp.refl _ _ _)
          have hk1 := Kp.refl (fun x => x = w.heap.size + 1 ∨ x = w.heap.size + 1 + 1) W2.heap.size W2
          have hkk := hk1
          have hbb := HB2.out
          have z4 := F4
          have z5 := F5
          obtain ⟨q40, q41, q4f⟩ := RatAt.cells z4
          obtain ⟨q50, q51, q5f⟩ := RatAt.cells z5
          clear B2 F4 F5 E5 E6
          go_region_held3 (fun W => W.cell? ⟨g, 0, none⟩ = some (.int .i64 p) ∧ W.cell? ⟨g, 1, none⟩ = some (.int .i64 q) ∧ W.cell? ⟨g + 1, 0, none⟩ = some (.int .i64 r) ∧ W.cell? ⟨g + 1, 1, none⟩ = some (.int .i64 s))
            (exact HK.out _ (by repeat (first | with_reducible exact hkk | with_reducible exact hk1 | with_reducible refine Kp.setCell ?_ (by dsimp only; omega) _ | with_reducible refine Kp.drew ?_ | with_reducible refine Kp.drewN ?_ _)))
            (first | (go_at_call 29; with_reducible refine (HL.out _).mono ?_; rintro e wc ⟨rfl, hbc⟩; have hkk : Kp (fun x => x = w.heap.size + 1 ∨ x = w.heap.size + 1 + 1) W2.heap.size W2 wc := Kp.step (by repeat (first | with_reducible exact hkk | with_reducible refine Kp.drew ?_ | with_reducible refine Kp.drewN ?_ _)) hbc (by first | exact hkk.size | exact hkk.drew.size); have z4 : RatAt wc (w.heap.size + 1) 0 0 := RatAt.step (by first | with_reducible exact z4 | with_reducible exact z4.drew | exact z4) hbc; have z5 : RatAt wc (w.heap.size + 1 + 1) 0 0 := RatAt.step (by first | with_reducible exact z5 | with_reducible exact z5.drew | exact z5) hbc; have hbb : Below w.heap.size w wc := rat_trans (by first | with_reducible exact hbb | with_reducible exact hbb.drew | exact hbb) hbc; clear hbc; obtain ⟨q40, q41, q4f⟩ := RatAt.cells z4; obtain ⟨q50, q51, q5f⟩ := RatAt.cells z5) | (go_at_call 29; with_reducible refine (HM.out _).mono ?_; rintro e wc ⟨rfl, hbc⟩; have hkk : Kp (fun x => x = w.heap.size + 1 ∨ x = w.heap.size + 1 + 1) W2.heap.size W2 wc := Kp.step (by repeat (first | with_reducible exact hkk | with_reducible refine Kp.drew ?_ | with_reducible refine Kp.drewN ?_ _)) hbc (by first | exact hkk.size | exact hkk.drew.size); have z4 : RatAt wc (w.heap.size + 1) 0 0 := RatAt.step (by first | with_reducible exact z4 | with_reducible exact z4.drew | exact z4) hbc; have z5 : RatAt wc (w.heap.size + 1 + 1) 0 0 := RatAt.step (by first | with_reducible exact z5 | with_reducible exact z5.drew | exact z5) hbc; have hbb : Below w.heap.size w wc := rat_trans (by first | with_reducible exact hbb | with_reducible exact hbb.drew | exact hbb) hbc; clear hbc; obtain ⟨q40, q41, q4f⟩ := RatAt.cells z4; obtain ⟨q50, q51, q5f⟩ := RatAt.cells z5))
          all_goals
            go_wp2
            refine bodyPost_ret (v := .tuple #[.agg #[.int .i64 ((Rat.divInt p q).num), .int .i64 ((Rat.divInt p q).den)], .agg #[.int .i64 ((Rat.divInt r s).num), .int .i64 ((Rat.divInt r s).den)], .int .i64 0]) (by simp [results, Try.results23, go_sem, *]; try omega) rfl ?_
            refine ⟨rfl, ?_⟩
            repeat (first | with_reducible refine Below.drew ?_ | with_reducible refine below_drewN ?_ _ | with_reducible refine Below.setCell ?_ (by first | (dsimp only; omega) | (simp; omega)) _ | with_reducible refine rat_up ?_ _ | exact hbb)
        · rw [if_neg hle] at e2
          subst e2
          have e3 := at_bad HH.out.2.2 (by decide)
          rw [HH.out.1, HH.out.2.1] at e3
          obtain ⟨e3, e4⟩ := e3
          subst e3 e4
          rw [decide_eq_false hle]
          clear hle hx h1 HH CV HG
          have R4 := S4
          have R5 := S5
          have B1 := B2
          have l4 := S4.lt
          have l5 := S5.lt
          clear S4 S5 B2
          obtain ⟨q40, q41, q4f⟩ := R4.cells
          obtain ⟨q50, q51, q5f⟩ := R5.cells
          have HB1 := hide B1
          clear R4 R5 B1
          go_wp2
          all_goals
            refine bodyPost_ret (v := .tuple #[.agg #[.int .i64 (0), .int .i64 (0)], .agg #[.int .i64 (0), .int .i64 (0)], .int .i64 11]) (by simp [results, Try.results23, go_sem, *]; try omega) rfl ?_
            refine ⟨rfl, ?_⟩
            repeat (first | with_reducible refine Below.drew ?_ | with_reducible refine below_drewN ?_ _ | with_reducible refine Below.setCell ?_ (by first | (dsimp only; omega) | (simp; omega)) _ | with_reducible refine rat_up ?_ _ | exact HB1.out)
  · have hE : atE X L H n x = chkG X L H n := by unfold atE; rw [if_pos hc]
    have hS := at_bad hE hc
    rw [hS.1, hS.2, hE]
    clear hE hS CS CV HG
    generalize chkG X L H n = c at *
    have hcb : (c != 0) = true := by simp [hc]
    go_enter Try.func23, Try.ntmps23
    go_upto_region 1 with fail
    generalize hW0 : (((w.alloc (.cells #[.int .i64 x] 3)).alloc (.cells #[.int .i64 0, .int .i64 0] 26)).alloc (.cells #[.int .i64 0, .int .i64 0] 26)) = W0 at HB0 HX HR4 HR5 HLX ⊢
    clear hW0
    go_wp2_with fail
    refine (CC.out _ HB0.out).mono ?_
    rintro e w1 ⟨rfl, hb⟩
    have B1 := rat_trans HB0.out hb
    have R4 := HR4.out.step hb
    have R5 := HR5.out.step hb
    have cx : w1.cell? ⟨w.heap.size, 0, none⟩ = some (.int .i64 x) := (hb.cell (p := ⟨w.heap.size, 0, none⟩) HLX.out).trans HX.out
    have lx : w.heap.size < w1.heap.size := Nat.lt_of_lt_of_le HLX.out hb.size
    clear hb CC HB0 HR4 HR5 HX HLX
    obtain ⟨q40, q41, q4f⟩ := R4.cells
    obtain ⟨q50, q51, q5f⟩ := R5.cells
    have HB1 := hide B1
    clear R4 R5 B1
    go_wp2
    all_goals
      refine bodyPost_ret (v := .tuple #[.agg #[.int .i64 (0), .int .i64 (0)], .agg #[.int .i64 (0), .int .i64 (0)], .int .i64 c]) (by simp [results, Try.results23, go_sem, *]; try omega) rfl ?_
      refine ⟨rfl, ?_⟩
      repeat (first | with_reducible refine Below.drew ?_ | with_reducible refine below_drewN ?_ _ | with_reducible refine Below.setCell ?_ (by first | (dsimp only; omega) | (simp; omega)) _ | with_reducible refine rat_up ?_ _ | exact HB1.out)
end Go.Proofs.Ytjjhdigbgmbmnaa.Skw
