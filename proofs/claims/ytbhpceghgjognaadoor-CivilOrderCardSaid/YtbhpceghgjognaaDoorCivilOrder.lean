/- The walk of the law CivilOrder. -/
import Derived.Test.YtbhpceghgjognaaDoorCivZb
import Derived.Test.YtbhpceghgjognaaDoorCivW
import Derived.Test.YtbhpceghgjognaaDoorQuiet
namespace Go.Proofs.YtbhpceghgjognaaDoor.Civ
open Go.RowKit Aid
theorem Box7.set6 {W : World} {b : Nat} {x0 x1 x2 x3 x4 x5 x6 : Int} (t : Box7 W b x0 x1 x2 x3 x4 x5 x6) (n : Int) : Box7 (W.setCell ⟨b, 6, none⟩ (.int .i64 n)) b x0 x1 x2 x3 x4 x5 n := by
  have o : ∀ j, j ≠ 6 → (W.setCell ⟨b, 6, none⟩ (.int .i64 n)).cell? ⟨b, j, none⟩ = W.cell? ⟨b, j, none⟩ := fun j hj => World.cell?_setCell_other _ _ _ _ (by intro h; cases h; exact hj rfl)
  exact ⟨(o 0 (by decide)).trans t.c0, (o 1 (by decide)).trans t.c1, (o 2 (by decide)).trans t.c2, (o 3 (by decide)).trans t.c3, (o 4 (by decide)).trans t.c4, (o 5 (by decide)).trans t.c5, World.cell?_setCell_same _ _ _ t.c6, fun o => by simpa [go_sem] using t.f o, by simpa [go_sem] using t.lt⟩
theorem Box7.far {W : World} {b c o : Nat} {v : Value} {x0 x1 x2 x3 x4 x5 x6 : Int} (t : Box7 W b x0 x1 x2 x3 x4 x5 x6) (hne : c ≠ b) : Box7 (W.setCell ⟨c, o, none⟩ v) b x0 x1 x2 x3 x4 x5 x6 := by
  have q : ∀ j, (W.setCell ⟨c, o, none⟩ v).cell? ⟨b, j, none⟩ = W.cell? ⟨b, j, none⟩ := fun j => World.cell?_setCell_other _ _ _ _ (by intro h; cases h; exact hne rfl)
  exact ⟨(q 0).trans t.c0, (q 1).trans t.c1, (q 2).trans t.c2, (q 3).trans t.c3, (q 4).trans t.c4, (q 5).trans t.c5, (q 6).trans t.c6, fun o => by simpa [go_sem] using t.f o, by simpa [go_sem] using t.lt⟩
theorem of_some (sec : Int) : ∃ x0 x1 x2 x3 x4 x5 x6 e : Int, (∀ W, Laid W → Calls Tryd.prog 11 #[.int .i64 sec] W fun r w' => r = .returned (.tuple #[.agg #[.int .i64 x0, .int .i64 x1, .int .i64 x2, .int .i64 x3, .int .i64 x4, .int .i64 x5, .int .i64 x6], .int .i64 e]) ∧ Below W.heap.size W w') ∧ ((-8000000000 ≤ sec ∧ sec ≤ 8000000000) ∨ (e != 0) = true) := by
  by_cases h : -8000000000 ≤ sec ∧ sec ≤ 8000000000
  · obtain ⟨y, d, H, I, S, M, e, _⟩ := of_sec h
    refine ⟨y, M, d, H, I, S, 0, 0, fun W l => ?_, .inl h⟩
    have := Of_ok sec W l h
    rwa [e] at this
  · exact ⟨0, 0, 0, 0, 0, 0, 0, 3, fun W _ => Of_bad sec W h, .inr rfl⟩
set_option maxRecDepth 100000 in
set_option maxHeartbeats 3200000 in
theorem Order_out (a b nano : Int) (w : World) (l : Laid5 w) (h : ¬ (-8000000000 ≤ a ∧ a ≤ 8000000000) ∨ ¬ (-8000000000 ≤ b ∧ b ≤ 8000000000)) : Calls Tryd.prog 5 #[.int .i64 a, .int .i64 b, .int .i64 nano] w fun e w' => e = .returned (.bool true) ∧ Below w.heap.size w w' := by
  have HL := hide (fun W (q : Below w.heap.size w W) => l.step q)
  have CA := hide awake_any
  obtain ⟨x0, x1, x2, x3, x4, x5, x6, e1, c1, d1⟩ := of_some a
  obtain ⟨z0, z1, z2, z3, z4, z5, z6, e2, c2, d2⟩ := of_some b
  have C1 := hide c1
  have C2 := hide c2
  have hd : (e1 != 0) = true ∨ (e1 = 0 ∧ (e2 != 0) = true) := by
    by_cases k : e1 = 0
    · subst k
      refine .inr ⟨rfl, ?_⟩
      rcases h with h | h
      · rcases d1 with d | d
        · exact absurd d h
        · cases d
      · rcases d2 with d | d
        · exact absurd d h
        · exact d
    · exact .inl (by simpa using k)
  clear h d1 d2 c1 c2 l
  rcases hd with hd | ⟨rfl, hd2⟩
  all_goals
    go_enter Tryd.func5, Tryd.ntmps5
    go_wp2_with fail
    with_reducible refine (C1.out _ (HL.out _ (Below.refl _ _)).laid).mono ?_
    rintro e w1 ⟨rfl, h1⟩
    have a1 := h1.alloc h1.size (.cells #[.int .i64 x0, .int .i64 x1, .int .i64 x2, .int .i64 x3, .int .i64 x4, .int .i64 x5, .int .i64 x6] 23)
    have A1 := hide a1
    have G2 := hide (C2.out _ (HL.out _ a1).laid)
    clear a1 h1
    go_wp2_with fail
    with_reducible refine G2.out.mono ?_
    rintro e w2 ⟨rfl, h2⟩
    have b2 := A1.out.trans (h2.mono A1.out.size)
    have b3 := b2.alloc b2.size (.cells #[.int .i64 z0, .int .i64 z1, .int .i64 z2, .int .i64 z3, .int .i64 z4, .int .i64 z5, .int .i64 z6] 23)
    have B3 := hide b3
    clear b2 h2 b3 G2
    go_wp2_with fail
    with_reducible refine (CA.out _ (HL.out _ B3.out)).mono ?_
    rintro e w9 ⟨rfl, h9⟩
    have B9 := hide (B3.out.trans (h9.mono B3.out.size))
    go_wp2
    go_ret
    exact ⟨rfl, B9.out⟩
set_option maxRecDepth 100000 in
set_option maxHeartbeats 6400000 in
theorem Order_in (a b nano : Int) (w : World) (l : Laid5 w) (ha : -8000000000 ≤ a ∧ a ≤ 8000000000) (hb : -8000000000 ≤ b ∧ b ≤ 8000000000) : Calls Tryd.prog 5 #[.int .i64 a, .int .i64 b, .int .i64 nano] w fun e w' => e = .returned (.bool true) ∧ Below w.heap.size w w' := by
  have HL := hide (fun W (q : Below w.heap.size w W) => l.step q)
  have CA := hide awake_any
  obtain ⟨y, d, H, I, S, M, ea, va, sa, -⟩ := of_sec ha
  obtain ⟨y', d', H', I', S', M', eb, vb, sb, -⟩ := of_sec hb
  have c1 := fun W (q : Laid W) => Of_ok a W q ha
  have c2 := fun W (q : Laid W) => Of_ok b W q hb
  rw [ea] at c1
  rw [eb] at c2
  obtain ⟨nn, hn⟩ : ∃ nn, (IntKind.u64.wrap nano).tmod 1000000000 = nn := ⟨_, rfl⟩
  have n0 : 0 ≤ IntKind.u64.wrap nano := by rw [IntKind.wrap_u64]; exact Int.emod_nonneg _ (by decide)
  have n1 : 0 ≤ nn := by rw [← hn]; exact Int.tmod_nonneg _ n0
  have n2 : nn ≤ 999999999 := by have := Int.tmod_lt_of_pos (IntKind.u64.wrap nano) (show (0 : Int) < 1000000000 by omega); omega
  have hv : Valid y (M : Int) d H I S nn := ⟨va.y1, va.y2, va.m1, va.m2, va.d1, va.d2, va.h1, va.h2, va.i1, va.i2, va.s1, va.s2, n1, n2⟩
  have ct := fun W (q : Laid5 W) => Text_any y (M : Int) d H I S nn W q
  have cu := fun W (q : Laid5 W) => Text_any y' (M' : Int) d' H' I' S' 0 W q
  have cp := fun W (q : Laid W) => Parse_good _ W q (text_form hv).1 0 (text_back hv).1
  rw [if_pos rfl, (text_back hv).2] at cp
  have hz := (text_form hv).2
  have hl := order_text hv vb
  rw [sa, sb] at hl
  generalize textV y (M : Int) d H I S nn = tx at *
  generalize textV y' (M' : Int) d' H' I' S' 0 = ty at *
  have C1 := hide c1
  have C2 := hide c2
  have CT := hide ct
  have CU := hide cu
  have CP := hide cp
  clear c1 c2 ct cu cp ea eb va vb sa sb hv l ha hb
  go_enter Tryd.func5, Tryd.ntmps5
  go_wp2_with fail
  with_reducible refine (C1.out _ (HL.out _ (Below.refl _ _)).laid).mono ?_
  rintro e w1 ⟨rfl, h1⟩
  have a1 := h1.alloc h1.size (.cells #[.int .i64 y, .int .i64 (M : Int), .int .i64 d, .int .i64 H, .int .i64 I, .int .i64 S, .int .i64 0] 23)
  have A1 := hide a1
  have P1 := hide (Box7.new w1 y (M : Int) d H I S 0)
  have G2 := hide (C2.out _ (HL.out _ a1).laid)
  have hp : w.heap.size ≤ w1.heap.size := h1.size
  clear a1 h1 C1 C2
  go_wp2_with fail
  with_reducible refine G2.out.mono ?_
  rintro e w2 ⟨rfl, h2⟩
  have b2 := A1.out.trans (h2.mono A1.out.size)
  have a2 := b2.alloc b2.size (.cells #[.int .i64 y', .int .i64 (M' : Int), .int .i64 d', .int .i64 H', .int .i64 I', .int .i64 S', .int .i64 0] 23)
  have P2 := step_alloc (P1.out.step h2) (.cells #[.int .i64 y', .int .i64 (M' : Int), .int .i64 d', .int .i64 H', .int .i64 I', .int .i64 S', .int .i64 0] 23)
  have Q2 := Box7.new w2 y' (M' : Int) d' H' I' S' 0
  have hpq : w1.heap.size < w2.heap.size := by have := h2.size; simp at this; omega
  clear h2 b2 A1 P1 G2
  go_upto_region 5 with fail
  generalize w2.alloc (.cells #[.int .i64 y', .int .i64 (M' : Int), .int .i64 d', .int .i64 H', .int .i64 I', .int .i64 S', .int .i64 0] 23) = W2 at *
  generalize w2.heap.size = q at *
  generalize w1.heap.size = p at *
  have P3 := hide (P2.set6 nn)
  have Q3 := hide (Q2.far (c := p) (o := 6) (v := .int .i64 nn) (by omega))
  have A3 := hide (a2.setCell (p := ⟨p, 6, none⟩) hp (.int .i64 nn))
  obtain ⟨x0, x1, x2, x3, x4, x5, x6, xf, xlt⟩ := P2
  have hw1 : IntKind.i64.wrap nn = nn := IntWalk.i64_in _ (by omega)
  clear a2 Q2 hp
  go_upto_region 6 with fail
  generalize W2.setCell ⟨p, 6, none⟩ (.int .i64 nn) = W3 at *
  clear x0 x1 x2 x3 x4 x5 x6 xf xlt
  have HP := P3
  have HQ := Q3
  have hb3 := Below.refl W3.heap.size W3
  have K := hide (fun (W : World) (g : Below W3.heap.size W3 W) => (And.intro (HP.out.step g).c0 (And.intro (HP.out.step g).c1 (And.intro (HP.out.step g).c2 (And.intro (HP.out.step g).c3 (And.intro (HP.out.step g).c4 (And.intro (HP.out.step g).c5 (And.intro (HP.out.step g).c6 (And.intro (HQ.out.step g).c0 (And.intro (HQ.out.step g).c1 (And.intro (HQ.out.step g).c2 (And.intro (HQ.out.step g).c3 (And.intro (HQ.out.step g).c4 (And.intro (HQ.out.step g).c5 (And.intro (HQ.out.step g).c6 g)))))))))))))))
  have LL := hide (fun W (g : Below W3.heap.size W3 W) => HL.out W (A3.out.trans (g.mono A3.out.size)))
  have DT := hide (based (Nat.le_refl _) fun W (g : Below W3.heap.size W3 W) => CT.out W (LL.out W g))
  have DU := hide (based (Nat.le_refl _) fun W (g : Below W3.heap.size W3 W) => CU.out W (LL.out W g))
  have DP := hide (based (Nat.le_refl _) fun W (g : Below W3.heap.size W3 W) => CP.out W (LL.out W g).laid)
  have DA := hide (based (Nat.le_refl _) fun W (g : Below W3.heap.size W3 W) => CA.out W (LL.out W g))
  clear P3 Q3 CT CU CP CA HL LL
  obtain ⟨x0, x1, x2, x3, x4, x5, x6, z0, z1, z2, z3, z4, z5, z6, _⟩ := K.out _ hb3
  go_wp2_with fail
  with_reducible refine (DT.out _ hb3).mono ?_
  rintro e w4 ⟨rfl, b4⟩
  go_wp2_with fail
  with_reducible refine (DP.out _ b4).mono ?_
  rintro e w5 ⟨rfl, b5⟩
  clear x0 x1 x2 x3 x4 x5 x6 z0 z1 z2 z3 z4 z5 z6 b4
  have b6 := b5.alloc b5.size (.cells #[.int .i64 y, .int .i64 (M : Int), .int .i64 d, .int .i64 H, .int .i64 I, .int .i64 S, .int .i64 nn] 23)
  have R6 := Box7.new w5 y (M : Int) d H I S nn
  obtain ⟨x0, x1, x2, x3, x4, x5, x6, z0, z1, z2, z3, z4, z5, z6, _⟩ := K.out _ b6
  obtain ⟨r0, r1, r2, r3, r4, r5, r6, rf, rlt⟩ := R6
  go_wp2_with fail
  with_reducible refine (DT.out _ b6).mono ?_
  rintro e w7 ⟨rfl, b7⟩
  clear x0 x1 x2 x3 x4 x5 x6 z0 z1 z2 z3 z4 z5 z6 r0 r1 r2 r3 r4 r5 r6 rf rlt b5 b6
  have hz2 : ((tx.size : Nat) : Int) = 30 := by rw [hz]; rfl
  go_wp2
  have hne := lt_some W3
  have y0 := fun V : Lt W3 => (K.out _ V.h).1
  have y1 := fun V : Lt W3 => (K.out _ V.h).2.1
  have y2 := fun V : Lt W3 => (K.out _ V.h).2.2.1
  have y3 := fun V : Lt W3 => (K.out _ V.h).2.2.2.1
  have y4 := fun V : Lt W3 => (K.out _ V.h).2.2.2.2.1
  have y5 := fun V : Lt W3 => (K.out _ V.h).2.2.2.2.2.1
  have y6 := fun V : Lt W3 => (K.out _ V.h).2.2.2.2.2.2.1
  have y7 := fun V : Lt W3 => (K.out _ V.h).2.2.2.2.2.2.2.1
  have y8 := fun V : Lt W3 => (K.out _ V.h).2.2.2.2.2.2.2.2.1
  have y9 := fun V : Lt W3 => (K.out _ V.h).2.2.2.2.2.2.2.2.2.1
  have y10 := fun V : Lt W3 => (K.out _ V.h).2.2.2.2.2.2.2.2.2.2.1
  have y11 := fun V : Lt W3 => (K.out _ V.h).2.2.2.2.2.2.2.2.2.2.2.1
  have y12 := fun V : Lt W3 => (K.out _ V.h).2.2.2.2.2.2.2.2.2.2.2.2.1
  have y13 := fun V : Lt W3 => (K.out _ V.h).2.2.2.2.2.2.2.2.2.2.2.2.2.1
  refine region_lt W3 (by kernel_rfl) (by kernel_rfl) b7 ?_
  repeat (first | go_big_quiet_step (first | (go_at_call 16; with_reducible exact call_lt (DT.out _ (Lt.h _))) | (go_at_call 16; with_reducible exact call_lt (DU.out _ (Lt.h _))) | (go_at_call 13; with_reducible exact call_lt (DA.out _ (Lt.h _)))) | quiet_step (first | (go_at_call 16; with_reducible exact call_lt (DT.out _ (Lt.h _))) | (go_at_call 16; with_reducible exact call_lt (DU.out _ (Lt.h _))) | (go_at_call 13; with_reducible exact call_lt (DA.out _ (Lt.h _)))))
  refine wpQuiet_nil ?_
  intro _ hw'
  obtain ⟨V, rfl⟩ := hw'
  have B9 := hide (A3.out.trans (V.h.mono A3.out.size))
  clear y0 y1 y2 y3 y4 y5 y6 y7 y8 y9 y10 y11 y12 y13 hne
  go_wp2
  go_ret
  exact ⟨rfl, B9.out⟩
theorem CivilOrder_walk (a b nano : Int) (w : World) (l : Laid5 w) : Calls Tryd.prog 5 #[.int .i64 a, .int .i64 b, .int .i64 nano] w fun e w' => e = .returned (.bool true) ∧ Below w.heap.size w w' := by
  by_cases ha : -8000000000 ≤ a ∧ a ≤ 8000000000
  · by_cases hb : -8000000000 ≤ b ∧ b ≤ 8000000000
    · exact Order_in a b nano w l ha hb
    · exact Order_out a b nano w l (.inr hb)
  · exact Order_out a b nano w l (.inl ha)
end Go.Proofs.YtbhpceghgjognaaDoor.Civ
