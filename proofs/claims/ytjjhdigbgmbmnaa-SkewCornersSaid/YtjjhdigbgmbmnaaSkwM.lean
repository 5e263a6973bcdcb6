/- The contracts of skew.Slopes and skew.Passes. -/
import Derived.Test.YtjjhdigbgmbmnaaSkwL
namespace Go.Proofs.Ytjjhdigbgmbmnaa.Skw
open Go.RowKit Aid Fx
/-- the error of Slopes, and its two bounds -/
noncomputable def slE (X L H : Nat → Int) (n : Nat) : Int := if chkG X L H n ≠ 0 then chkG X L H n else if n = 1 ∨ ¬ topR (sl1 X L H) n ≤ botR (sl2 X L H) n then 11 else 0
noncomputable def slA (X L H : Nat → Int) (n : Nat) : Int × Int := if slE X L H n = 0 then ((topR (sl1 X L H) n).num, ((topR (sl1 X L H) n).den : Int)) else (0, 0)
noncomputable def slB (X L H : Nat → Int) (n : Nat) : Int × Int := if slE X L H n = 0 then ((botR (sl2 X L H) n).num, ((botR (sl2 X L H) n).den : Int)) else (0, 0)
def ratP (x : Int × Int) : Value := .agg #[.int .i64 x.1, .int .i64 x.2]
theorem sl_bad {X L H : Nat → Int} {n : Nat} {c : Int} (h : slE X L H n = c) (hc : c ≠ 0) : slA X L H n = (0, 0) ∧ slB X L H n = (0, 0) := by
  unfold slA slB
  rw [if_neg (by rw [h]; exact hc), if_neg (by rw [h]; exact hc)]
  exact ⟨rfl, rfl⟩
theorem sl_good {X L H : Nat → Int} {n : Nat} {p q r s : Int} (h : SlB X L H n p q r s) (hE : slE X L H n = 0) : slA X L H n = ((Rat.divInt p q).num, ((Rat.divInt p q).den : Int)) ∧ slB X L H n = ((Rat.divInt r s).num, ((Rat.divInt r s).den : Int)) := by
  unfold slA slB
  rw [if_pos hE, if_pos hE, ← h.top.eq, ← h.bot.eq]
  exact ⟨rfl, rfl⟩
theorem slE_of {X L H : Nat → Int} {n : Nat} {p q r s : Int} (h : SlB X L H n p q r s) (h2 : 2 ≤ n) (hc : chkG X L H n = 0) : slE X L H n = if Rat.divInt p q ≤ Rat.divInt r s then 0 else 11 := by
  unfold slE
  rw [if_neg (by rw [hc]; decide), ← h.top.eq, ← h.bot.eq]
  by_cases e : Rat.divInt p q ≤ Rat.divInt r s
  · rw [if_neg (by rintro (k | k); omega; exact k e), if_pos e]
  · rw [if_pos (.inr e), if_neg e]
set_option maxRecDepth 100000 in
set_option maxHeartbeats 3200000 in
theorem Slopes_any (a : Option Addr) (n cap : Nat) (X L H : Nat → Int) (w : World) (hr : GatesAt w a n X L H) (hcap : n ≤ cap) :
    Calls Try.prog 12 #[.slice a n cap] w fun e w' => e = .returned (.tuple #[ratP (slA X L H n), ratP (slB X L H n), .int .i64 (slE X L H n)]) ∧ Below w.heap.size w w' := by
  have hn63 := hr.1
  have HB0 : Hid (Below w.heap.size w ((w.alloc (.cells #[.int .i64 0, .int .i64 0] 26)).alloc (.cells #[.int .i64 0, .int .i64 0] 26))) := hide (((Below.refl _ _).alloc (Nat.le_refl _) _).alloc (by simp) _)
  have HR4 : Hid (RatAt ((w.alloc (.cells #[.int .i64 0, .int .i64 0] 26)).alloc (.cells #[.int .i64 0, .int .i64 0] 26)) w.heap.size 0 0) := hide ((RatAt.fresh rfl).alloc _)
  have HR5 : Hid (RatAt ((w.alloc (.cells #[.int .i64 0, .int .i64 0] 26)).alloc (.cells #[.int .i64 0, .int .i64 0] 26)) (w.heap.size + 1) 0 0) := hide (RatAt.fresh1 rfl)
  have CC := hide (fun W (h : Below w.heap.size w W) => Check_any a n cap X L H W (hr.below h))
  have CS := hide (fun W (h : Below w.heap.size w W) (ok : GOk X L H n) (h2 : 2 ≤ n) => slopes_any a n cap X L H W (hr.below h) ok h2 hcap)
  simp only [ratP]
  clear hr
  by_cases hc : chkG X L H n = 0
  · rw [hc] at CC
    have HO := hide (chk_ok hc)
    by_cases h1 : n = 1
    · have hE : slE X L H n = 11 := by unfold slE; rw [if_neg (by rw [hc]; decide), if_pos (.inl h1)]
      have hS := sl_bad hE (by decide)
      rw [hS.1, hS.2, hE]
      clear hE hS CS
      subst h1
      go_enter Try.func12, Try.ntmps12
      go_wp2_with fail
      refine (CC.out _ HB0.out).mono ?_
      rintro e w1 ⟨rfl, hb⟩
      have B1 := rat_trans HB0.out hb
      obtain ⟨z40, z41, z4f⟩ := (HR4.out.step hb).cells
      obtain ⟨z50, z51, z5f⟩ := (HR5.out.step hb).cells
      clear hb
      have HB1 := hide B1
      clear B1
      go_wp2
      all_goals
        refine bodyPost_ret (v := .tuple #[.agg #[.int .i64 0, .int .i64 0], .agg #[.int .i64 0, .int .i64 0], .int .i64 11]) (by simp [results, Try.results12, go_sem, *]; try omega) rfl ?_
        refine ⟨rfl, ?_⟩
        repeat (first | with_reducible refine Below.drew ?_ | with_reducible refine Below.setCell ?_ (by first | (dsimp only; omega) | (simp; omega)) _ | exact HB1.out)
    · have h2 : 2 ≤ n := by have := HO.out.n1; omega
      have hn1 : ((n : Int) == 1) = false := by simp; omega
      generalize hslA : slA X L H n = A
      generalize hslB : slB X L H n = B
      generalize hslE : slE X L H n = E
      have HH := hide (And.intro hslA (And.intro hslB hslE))
      clear hslA hslB hslE
      go_enter Try.func12, Try.ntmps12
      go_wp2_with fail
      refine (CC.out _ HB0.out).mono ?_
      rintro e w1 ⟨rfl, hb⟩
      have B1 := rat_trans HB0.out hb
      have R4 := HR4.out.step hb
      have R5 := HR5.out.step hb
      clear hb CC HB0 HR4 HR5
      go_wp2_with fail
      refine (CS.out _ B1 HO.out h2).mono ?_
      rintro e w2 ⟨p, q, r, s, rfl, SB, hb⟩
      have B2 := rat_trans B1 hb
      have S4 := R4.step hb
      have S5 := R5.step hb
      clear R4 R5 B1 CS hb
      have e2 := slE_of SB h2 hc
      rw [HH.out.2.2] at e2
      by_cases hle : Rat.divInt p q ≤ Rat.divInt r s
      · rw [if_pos hle] at e2
        subst e2
        have e3 := sl_good SB HH.out.2.2
        rw [HH.out.1, HH.out.2.1] at e3
        obtain ⟨e3, e4⟩ := e3
        subst e3 e4
        have hdec : decide (Rat.divInt p q ≤ Rat.divInt r s) = true := decide_eq_true hle
        have q1 := SB.q1
        have s1 := SB.s1
        have p1 := SB.p1
        have r1 := SB.r1
        have l4 := S4.lt
        have l5 := S5.lt
        clear hle SB HH
        rw [hdec]
        go_upto_region 9 with fail
        have E5 := (RatAt.newv (n := p) (d := q) (W := w2) rfl).alloc (.cells #[.int .i64 r, .int .i64 s] 26)
        have E6 : RatAt ((w2.alloc (.cells #[.int .i64 p, .int .i64 q] 26)).alloc (.cells #[.int .i64 r, .int .i64 s] 26)) (w2.heap.size + 1) r s := RatAt.newv1 rfl
        have hup := ((Below.refl w2.heap.size w2).alloc (Nat.le_refl _) (.cells #[.int .i64 p, .int .i64 q] 26)).alloc (by simp) (.cells #[.int .i64 r, .int .i64 s] 26)
        have F4 := S4.step hup
        have F5 := S5.step hup
        replace B2 := B2.trans (hup.mono B2.size)
        clear hup S4 S5
        generalize hW2 : ((w2.alloc (.cells #[.int .i64 p, .int .i64 q] 26)).alloc (.cells #[.int .i64 r, .int .i64 s] 26)) = W2 at E5 E6 F4 F5 B2 ⊢
        clear hW2
        generalize hg : w2.heap.size = g at E5 E6 l4 l5 ⊢
        clear hg
        have HL := hide (fun W => lowest_any p q W ⟨by omega, by omega⟩ ⟨by omega, by omega⟩)
        have HM := hide (fun W => lowest_any r s W ⟨by omega, by omega⟩ ⟨by omega, by omega⟩)
        have HB2 := hide B2
        have l5 := E5.lt
        have l6 := E6.lt
        have HK := hide (fun W (z : Kp (fun x => x = w.heap.size ∨ x = w.heap.size + 1) W2.heap.size W2 W) => And.intro ((z.cell (k := g) (o := 0) l5 (by omega)).trans E5.cells.1) (And.intro ((z.cell (k := g) (o := 1) l5 (by omega)).trans E5.cells.2.1) (And.intro ((z.cell (k := g + 1) (o := 0) l6 (by omega)).trans E6.cells.1) ((z.cell (k := g + 1) (o := 1) l6 (by omega)).trans E6.cells.2.1))))
        obtain ⟨x0, x1, x2, x3⟩ := HK.out _ (Kp.refl _ _ _)
        have hk1 := Kp.refl (fun x => x = w.heap.size ∨ x = w.heap.size + 1) W2.heap.size W2
        have hkk := hk1
        have hbb := HB2.out
        have z4 := F4
        have z5 := F5
        obtain ⟨q40, q41, q4f⟩ := RatAt.cells z4
        obtain ⟨q50, q51, q5f⟩ := RatAt.cells z5
        clear B2 F4 F5 E5 E6
        go_region_held3 (fun W => W.cell? ⟨g, 0, none⟩ = some (.int .i64 p) ∧ W.cell? ⟨g, 1, none⟩ = some (.int .i64 q) ∧ W.cell? ⟨g + 1, 0, none⟩ = some (.int .i64 r) ∧ W.cell? ⟨g + 1, 1, none⟩ = some (.int .i64 s))
          (exact HK.out _ (by repeat (first | with_reducible exact hkk | with_reducible exact hk1 | with_reducible refine Kp.setCell ?_ (by dsimp only; omega) _ | with_reducible refine Kp.drew ?_ | with_reducible refine Kp.drewN ?_ _)))
          (first | (go_at_call 29; with_reducible refine (HL.out _).mono ?_; rintro e wc ⟨rfl, hbc⟩; have hkk : Kp (fun x => x = w.heap.size ∨ x = w.heap.size + 1) W2.heap.size W2 wc := Kp.step (by repeat (first | with_reducible exact hkk | with_reducible refine Kp.drew ?_ | with_reducible refine Kp.drewN ?_ _)) hbc (by first | exact hkk.size | exact hkk.drew.size); have z4 : RatAt wc (w.heap.size) 0 0 := RatAt.step (by first | with_reducible exact z4 | with_reducible exact z4.drew | exact z4) hbc; have z5 : RatAt wc (w.heap.size + 1) 0 0 := RatAt.step (by first | with_reducible exact z5 | with_reducible exact z5.drew | exact z5) hbc; have hbb : Below w.heap.size w wc := rat_trans (by first | with_reducible exact hbb | with_reducible exact hbb.drew | exact hbb) hbc; clear hbc; obtain ⟨q40, q41, q4f⟩ := RatAt.cells z4; obtain ⟨q50, q51, q5f⟩ := RatAt.cells z5) | (go_at_call 29; with_reducible refine (HM.out _).mono ?_; rintro e wc ⟨rfl, hbc⟩; have hkk : Kp (fun x => x = w.heap.size ∨ x = w.heap.size + 1) W2.heap.size W2 wc := Kp.step (by repeat (first | with_reducible exact hkk | with_reducible refine Kp.drew ?_ | with_reducible refine Kp.drewN ?_ _)) hbc (by first | exact hkk.size | exact hkk.drew.size); have z4 : RatAt wc (w.heap.size) 0 0 := RatAt.step (by first | with_reducible exact z4 | with_reducible exact z4.drew | exact z4) hbc; have z5 : RatAt wc (w.heap.size + 1) 0 0 := RatAt.step (by first | with_reducible exact z5 | with_reducible exact z5.drew | exact z5) hbc; have hbb : Below w.heap.size w wc := rat_trans (by first | with_reducible exact hbb | with_reducible exact hbb.drew | exact hbb) hbc; clear hbc; obtain ⟨q40, q41, q4f⟩ := RatAt.cells z4; obtain ⟨q50, q51, q5f⟩ := RatAt.cells z5))
        all_goals
          go_wp2
          refine bodyPost_ret (v := .tuple #[.agg #[.int .i64 (Rat.divInt p q).num, .int .i64 (Rat.divInt p q).den], .agg #[.int .i64 (Rat.divInt r s).num, .int .i64 (Rat.divInt r s).den], .int .i64 0]) (by simp [results, Try.results12, go_sem, *]; try omega) rfl ?_
          refine ⟨rfl, ?_⟩
          repeat (first | with_reducible refine Below.drew ?_ | with_reducible refine Below.setCell ?_ (by first | (dsimp only; omega) | (simp; omega)) _ | exact hbb)
      · rw [if_neg hle] at e2
        subst e2
        have e3 := sl_bad HH.out.2.2 (by decide)
        rw [HH.out.1, HH.out.2.1] at e3
        obtain ⟨e3, e4⟩ := e3
        subst e3 e4
        have hdec : decide (Rat.divInt p q ≤ Rat.divInt r s) = false := decide_eq_false hle
        obtain ⟨z40, z41, z4f⟩ := S4.cells
        obtain ⟨z50, z51, z5f⟩ := S5.cells
        have l4 := S4.lt
        have l5 := S5.lt
        have HB2 := hide B2
        clear hle SB HH S4 S5 B2
        rw [hdec]
        go_wp2
        all_goals
          refine bodyPost_ret (v := .tuple #[.agg #[.int .i64 0, .int .i64 0], .agg #[.int .i64 0, .int .i64 0], .int .i64 11]) (by simp [results, Try.results12, go_sem, *]; try omega) rfl ?_
          refine ⟨rfl, ?_⟩
          repeat (first | with_reducible refine Below.drew ?_ | with_reducible refine Below.setCell ?_ (by first | (dsimp only; omega) | (simp; omega)) _ | with_reducible refine rat_up ?_ _ | exact HB2.out)
  · have hE : slE X L H n = chkG X L H n := by unfold slE; rw [if_pos hc]
    have hS := sl_bad hE hc
    rw [hS.1, hS.2, hE]
    clear hE hS CS
    generalize chkG X L H n = c at *
    have hcb : (c != 0) = true := by simp [hc]
    go_enter Try.func12, Try.ntmps12
    go_wp2_with fail
    refine (CC.out _ HB0.out).mono ?_
    rintro e w1 ⟨rfl, hb⟩
    have B1 := rat_trans HB0.out hb
    obtain ⟨z40, z41, z4f⟩ := (HR4.out.step hb).cells
    obtain ⟨z50, z51, z5f⟩ := (HR5.out.step hb).cells
    clear hb
    have HB1 := hide B1
    clear B1
    go_wp2
    all_goals
      refine bodyPost_ret (v := .tuple #[.agg #[.int .i64 0, .int .i64 0], .agg #[.int .i64 0, .int .i64 0], .int .i64 c]) (by simp [results, Try.results12, go_sem, *]; try omega) rfl ?_
      refine ⟨rfl, ?_⟩
      repeat (first | with_reducible refine Below.drew ?_ | with_reducible refine Below.setCell ?_ (by first | (dsimp only; omega) | (simp; omega)) _ | exact HB1.out)
end Go.Proofs.Ytjjhdigbgmbmnaa.Skw
