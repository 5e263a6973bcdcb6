/- The contract of skew.slopes: the bounds of the slopes over every two gates. -/
import Derived.Test.YtjjhdigbgmbmnaaSkwJ
namespace Go.Proofs.Ytjjhdigbgmbmnaa.Skw
open Go.RowKit Aid Fx
def sl1 (X L H : Nat → Int) (i j : Nat) : Rat := Rat.divInt (L j - H i) (X j - X i)
def sl2 (X L H : Nat → Int) (i j : Nat) : Rat := Rat.divInt (H j - L i) (X j - X i)
structure SlB (X L H : Nat → Int) (n : Nat) (p q r s : Int) : Prop where
  top : IsTop (sl1 X L H) n (Rat.divInt p q)
  bot : IsBot (sl2 X L H) n (Rat.divInt r s)
  q1 : 1 ≤ q ∧ q ≤ 1073741824
  s1 : 1 ≤ s ∧ s ≤ 1073741824
  p1 : -2147483648 ≤ p ∧ p ≤ 2147483648
  r1 : -2147483648 ≤ r ∧ r ≤ 2147483648
set_option maxRecDepth 100000 in
set_option maxHeartbeats 3200000 in
theorem slopes_any (a : Option Addr) (n cap : Nat) (X L H : Nat → Int) (w : World) (hr : GatesAt w a n X L H) (ok : GOk X L H n) (hn2 : 2 ≤ n) (hcap : n ≤ cap) :
    Calls Try.prog 28 #[.slice a n cap] w fun e w' => ∃ p q r s, e = .returned (.tuple #[.agg #[.int .i64 p, .int .i64 q], .agg #[.int .i64 r, .int .i64 s], .bool (decide (Rat.divInt p q ≤ Rat.divInt r s))]) ∧ SlB X L H n p q r s ∧ Below w.heap.size w w' := by
  have CE := hide (fun W (h : Below w.heap.size w W) => ends_slopes a n cap X L H (fun i j => L j - H i) (fun i j => X j - X i) (fun i j => H j - L i) (fun i j => X j - X i) W (hr.below h) hn2 hcap
    (fun W' _ i j hij hj => by
      have := slopes1_any (X i) (L i) (H i) (X j) (L j) (H j) W' (ok.r i (by omega)) (ok.r j hj)
      exact this)
    (fun i j hij hj => by
      have h1 := ok.inc i j hij hj
      obtain ⟨x1, x2, x3, x4, x5, x6⟩ := ok.r i (by omega)
      obtain ⟨y1, y2, y3, y4, y5, y6⟩ := ok.r j hj
      omega))
  simp only [ratV] at CE
  have HO := hide ok
  clear ok hr
  have HB0 : Hid (Below w.heap.size w ((w.alloc (.cells #[.int .i64 0, .int .i64 0] 26)).alloc (.cells #[.int .i64 0, .int .i64 0] 26))) := hide (((Below.refl _ _).alloc (Nat.le_refl _) _).alloc (by simp) _)
  have HR4 : Hid (RatAt ((w.alloc (.cells #[.int .i64 0, .int .i64 0] 26)).alloc (.cells #[.int .i64 0, .int .i64 0] 26)) w.heap.size 0 0) := hide ((RatAt.fresh rfl).alloc _)
  have HR5 : Hid (RatAt ((w.alloc (.cells #[.int .i64 0, .int .i64 0] 26)).alloc (.cells #[.int .i64 0, .int .i64 0] 26)) (w.heap.size + 1) 0 0) := hide (RatAt.fresh1 rfl)
  go_enter Try.func28, Try.ntmps28
  go_wp2_with fail
  refine (CE.out _ HB0.out).mono ?_
  rintro e w1 ⟨p, q, r, s, rfl, tt, bb, hb⟩
  have SB : SlB X L H n p q r s := by
    have t2 := tt.all (fun _ _ _ _ => trivial)
    have b2 := bb.all (fun _ _ _ _ => trivial)
    obtain ⟨i, j, hij, hj, e1, e2⟩ := tt.i
    obtain ⟨i', j', hij', hj', e3, e4⟩ := bb.i
    have h1 := HO.out.inc i j hij hj
    have h2 := HO.out.inc i' j' hij' hj'
    obtain ⟨x1, x2, x3, x4, x5, x6⟩ := HO.out.r i (by omega)
    obtain ⟨y1, y2, y3, y4, y5, y6⟩ := HO.out.r j hj
    obtain ⟨z1, z2, z3, z4, z5, z6⟩ := HO.out.r i' (by omega)
    obtain ⟨u1, u2, u3, u4, u5, u6⟩ := HO.out.r j' hj'
    exact ⟨t2, b2, by omega, by omega, by omega, by omega⟩
  have B1 := HB0.out.trans (hb.mono HB0.out.size)
  have R4 := HR4.out.step hb
  have R5 := HR5.out.step hb
  have HSB := hide SB
  clear tt bb hb HR4 HR5 HB0 CE HO SB
  go_upto_region 2 with fail
  have E5 := (RatAt.newv (n := p) (d := q) (W := w1) rfl).alloc (.cells #[.int .i64 r, .int .i64 s] 26)
  have E6 : RatAt ((w1.alloc (.cells #[.int .i64 p, .int .i64 q] 26)).alloc (.cells #[.int .i64 r, .int .i64 s] 26)) (w1.heap.size + 1) r s := RatAt.newv1 rfl
  have hup := ((Below.refl w1.heap.size w1).alloc (Nat.le_refl _) (.cells #[.int .i64 p, .int .i64 q] 26)).alloc (by simp) (.cells #[.int .i64 r, .int .i64 s] 26)
  have F4 := R4.step hup
  have F5 := R5.step hup
  have B2 := B1.trans (hup.mono B1.size)
  have hs1 := R5.lt
  clear hup R4 R5 B1
  generalize hW2 : ((w1.alloc (.cells #[.int .i64 p, .int .i64 q] 26)).alloc (.cells #[.int .i64 r, .int .i64 s] 26)) = W2 at E5 E6 F4 F5 B2 ⊢
  clear hW2
  generalize hg : w1.heap.size = g at E5 E6 hs1 ⊢
  clear hg
  have HC := hide (fun W => compare_any p q r s W HSB.out.q1 HSB.out.s1 ⟨by have := HSB.out.p1; omega, by have := HSB.out.p1; omega⟩ ⟨by have := HSB.out.r1; omega, by have := HSB.out.r1; omega⟩)
  have HP := hide (cmp_le (an := p) (bn := r) (show 0 < q by have := HSB.out.q1; omega) (show 0 < s by have := HSB.out.s1; omega))
  generalize cmpV p q r s = c at HC HP
  have HB2 := hide B2
  have HF4 := hide F4
  have HF5 := hide F5
  obtain ⟨z40, z41, z4f⟩ := F4.cells
  obtain ⟨z50, z51, z5f⟩ := F5.cells
  have l5 := E5.lt
  have l6 := E6.lt
  have HK := hide (fun W (z : Kp (fun x => x = w.heap.size ∨ x = w.heap.size + 1) W2.heap.size W2 W) => And.intro ((z.cell (k := g) (o := 0) l5 (by omega)).trans E5.cells.1) (And.intro ((z.cell (k := g) (o := 1) l5 (by omega)).trans E5.cells.2.1) (And.intro ((z.cell (k := g + 1) (o := 0) l6 (by omega)).trans E6.cells.1) ((z.cell (k := g + 1) (o := 1) l6 (by omega)).trans E6.cells.2.1))))
  obtain ⟨x0, x1, x2, x3⟩ := HK.out _ (Kp.refl _ _ _)
  clear B2 F4 F5 E5 E6
  have hk1 := Kp.refl (fun x => x = w.heap.size ∨ x = w.heap.size + 1) W2.heap.size W2
  have hkk := hk1
  have hbb := HB2.out
  go_region_held3 (fun W => W.cell? ⟨g, 0, none⟩ = some (.int .i64 p) ∧ W.cell? ⟨g, 1, none⟩ = some (.int .i64 q) ∧ W.cell? ⟨g + 1, 0, none⟩ = some (.int .i64 r) ∧ W.cell? ⟨g + 1, 1, none⟩ = some (.int .i64 s))
    (exact HK.out _ (by repeat (first | with_reducible exact hkk | with_reducible exact hk1 | with_reducible refine Kp.setCell ?_ (by dsimp only; omega) _ | with_reducible refine Kp.drew ?_ | with_reducible refine Kp.drewN ?_ _)))
    (first | (go_at_call 43; with_reducible refine (HC.out _).mono ?_; rintro e wc ⟨rfl, hbc⟩; have hkk : Kp (fun x => x = w.heap.size ∨ x = w.heap.size + 1) W2.heap.size W2 wc := Kp.step (by repeat (first | with_reducible exact hk1 | with_reducible refine Kp.drew ?_ | with_reducible refine Kp.drewN ?_ _)) hbc (Nat.le_refl _); have z4 : RatAt wc w.heap.size 0 0 := RatAt.step (by first | exact HF4.out | exact HF4.out.drew) hbc; have z5 : RatAt wc (w.heap.size + 1) 0 0 := RatAt.step (by first | exact HF5.out | exact HF5.out.drew) hbc; have hbb : Below w.heap.size w wc := rat_trans (by first | exact HB2.out | exact HB2.out.drew) hbc; clear hbc; obtain ⟨q40, q41, q4f⟩ := RatAt.cells z4; obtain ⟨q50, q51, q5f⟩ := RatAt.cells z5))
  all_goals
    go_wp2
    refine bodyPost_ret (v := .tuple #[.agg #[.int .i64 p, .int .i64 q], .agg #[.int .i64 r, .int .i64 s], .bool (decide (c ≤ 0))]) (by simp [results, Try.results28, go_sem, *]; try omega) rfl ?_
    refine ⟨p, q, r, s, by rw [decide_eq_decide.2 HP.out], HSB.out, ?_⟩
    repeat (first | with_reducible refine Below.drew ?_ | with_reducible refine Below.setCell ?_ (by first | (dsimp only; omega) | (simp; omega)) _ | exact hbb)
end Go.Proofs.Ytjjhdigbgmbmnaa.Skw
