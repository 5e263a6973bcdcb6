/- The contract of the reference's slopes. -/
import Derived.Test.YtjjhdigbgmbmnaaSkxA
namespace Go.Proofs.Ytjjhdigbgmbmnaa.Skw
open Go.RowKit Aid Fx
set_option maxRecDepth 100000 in
set_option maxHeartbeats 25600000 in
theorem rslopes_any (a : Option Addr) (n cap : Nat) (X L H : Nat → Int) (w : World) (hr : GatesAt w a n X L H) (ok : GOk X L H n) :
    Calls Try.prog 30 #[.slice a n cap] w fun e w' => ∃ U V : Rat, e = .returned (.tuple #[.agg #[.int .i64 U.num, .int .i64 U.den], .agg #[.int .i64 V.num, .int .i64 V.den]]) ∧ RTop (sl1 X L H) n (Rat.divInt (-1099511627776) 1) (fun _ _ => True) U ∧ RBot (sl2 X L H) n (Rat.divInt 1099511627776 1) (fun _ _ => True) V ∧ Below w.heap.size w w' := by
  have hn63 := hr.1
  obtain ⟨b, off, rfl, hlt, hc0⟩ := hr.at_ (by have := ok.n1; omega)
  have HG := hide hc0
  have HO := hide ok
  clear hr hc0 ok
  have E0 : Hid (Ends w (w.heap.size + 1 + 1) (w.heap.size + 1 + 1 + 1) (-1099511627776) 1 1099511627776 1 ((((w.alloc (.cells #[.int .i64 0, .int .i64 0] 26)).alloc (.cells #[.int .i64 0, .int .i64 0] 26)).alloc (.cells #[.int .i64 (-1099511627776), .int .i64 1] 26)).alloc (.cells #[.int .i64 1099511627776, .int .i64 1] 26))) := hide ⟨(((((Below.refl _ _).alloc (Nat.le_refl _) _).alloc (by simp) _).alloc (by simp; omega) _).alloc (by simp; omega) _), (((RatAt.fresh rfl).alloc _).alloc _).alloc _, ((RatAt.fresh (by simp)).alloc _).alloc _, (RatAt.newv (by simp)).alloc _, RatAt.newv (by simp), by omega, by omega, by omega⟩
  have HS : Hid (∀ W, Below w.heap.size w W → ∀ i, i < n → W.cell? ⟨b, off + i * 3, none⟩ = some (.int .i64 (X i)) ∧ W.cell? ⟨b, off + i * 3 + 1, none⟩ = some (.int .i64 (L i)) ∧ W.cell? ⟨b, off + i * 3 + 2, none⟩ = some (.int .i64 (H i))) :=
    hide fun W h i hi => ⟨(h.cell (p := ⟨b, _, none⟩) hlt).trans (HG.out i hi).1, (h.cell (p := ⟨b, _, none⟩) hlt).trans (HG.out i hi).2.1, (h.cell (p := ⟨b, _, none⟩) hlt).trans (HG.out i hi).2.2⟩
  have hn1 := HO.out.n2
  go_enter Try.func30, Try.ntmps30
  go_upto_region 2 with fail
  generalize hW0 : ((((w.alloc (.cells #[.int .i64 0, .int .i64 0] 26)).alloc (.cells #[.int .i64 0, .int .i64 0] 26)).alloc (.cells #[.int .i64 (-1099511627776), .int .i64 1] 26)).alloc (.cells #[.int .i64 1099511627776, .int .i64 1] 26)) = W0 at E0 ⊢
  clear hW0
  have HPQ : Hid (w.heap.size + 2 = w.heap.size + 1 + 1) := hide rfl
  generalize hP : w.heap.size + 1 + 1 + 1 = Q at E0 ⊢
  generalize hQ : w.heap.size + 1 + 1 = P at E0 ⊢
  clear hP hQ
  go_wp2
  go_loopw [6] (fun i wr => ∃ (k : Nat) (U V : Rat), k ≤ n ∧ i = .int .i64 k ∧ RTop (sl1 X L H) n (Rat.divInt (-1099511627776) 1) (fun x _ => x < k) U ∧ RBot (sl2 X L H) n (Rat.divInt 1099511627776 1) (fun x _ => x < k) V ∧ Ends w P Q U.num U.den V.num V.den wr) (fun i _ => n - (intOf i).toNat)
  case atStart => exact ⟨0, _, _, Nat.zero_le _, rfl, ⟨.inl rfl, fun _ _ _ _ h => absurd h (by omega), fit_of (by omega) (by omega)⟩, ⟨.inl rfl, fun _ _ _ _ h => absurd h (by omega), fit_of (by omega) (by omega)⟩, by rw [init_num.1, init_num.2, init_num2.1, init_num2.2]; exact E0.out⟩
  case round =>
    clear E0
    obtain ⟨k, U, V, hk, rfl, tt, bb, EE⟩ := hrel
    by_cases hlk : k < n
    · have hkq : (k : Int) < (n : Int) := by omega
      have HE := hide EE
      have HTT := hide tt
      have HBB := hide bb
      clear EE tt bb
      have vk : IntKind.i64.wrap ((k : Int) + 1) = ((k + 1 : Nat) : Int) := by rw [show ((k + 1 : Nat) : Int) = (k : Int) + 1 by omega]; exact IntWalk.i64_in _ (by omega)
      go_wp2
      go_loopw [7] (fun i wx => ∃ (m : Nat) (U V : Rat), k < m ∧ m ≤ n ∧ i = .int .i64 m ∧ RTop (sl1 X L H) n (Rat.divInt (-1099511627776) 1) (fun x y => x < k ∨ (x = k ∧ y < m)) U ∧ RBot (sl2 X L H) n (Rat.divInt 1099511627776 1) (fun x y => x < k ∨ (x = k ∧ y < m)) V ∧ Ends w P Q U.num U.den V.num V.den wx) (fun i _ => n - (intOf i).toNat)
      case atStart => exact ⟨k + 1, U, V, by omega, by omega, by first | rfl | go_num, HTT.out.sub (by intro a b h1 h2 h3; omega), HBB.out.sub (by intro a b h1 h2 h3; omega), HE.out⟩
      case round =>
        clear HTT HBB HE U V vk
        obtain ⟨m, U, V, hkm, hm, rfl, tt, bb, EE⟩ := hrel
        by_cases hmn : m < n
        · have hmq : (m : Int) < (n : Int) := by omega
          have hbq := Nat.lt_of_lt_of_le hlt EE.bel.size
          have HE := hide EE
          have HTT := hide tt
          have HBB := hide bb
          clear EE tt bb
          obtain ⟨x1, x2, x3, x4, x5, x6⟩ := HO.out.r k hlk
          obtain ⟨y1, y2, y3, y4, y5, y6⟩ := HO.out.r m hmn
          have hinc := HO.out.inc k m hkm hmn
          have v0 : IntKind.i64.wrap (X m - X k) = X m - X k := IntWalk.i64_in _ (by omega)
          have v1 : IntKind.i64.wrap (L m - H k) = L m - H k := IntWalk.i64_in _ (by omega)
          have v2 : IntKind.i64.wrap (H m - L k) = H m - L k := IntWalk.i64_in _ (by omega)
          have HCU := hide (fun W => rat_any (L m - H k) (X m - X k) W (by omega) (by omega))
          have HCD := hide (fun W => rat_any (H m - L k) (X m - X k) W (by omega) (by omega))
          have HF1 : Hid (Fit (sl1 X L H k m)) := hide (fit_of (by omega) (by omega))
          have HF2 : Hid (Fit (sl2 X L H k m)) := hide (fit_of (by omega) (by omega))
          rw [show Rat.divInt (L m - H k) (X m - X k) = sl1 X L H k m from rfl] at HCU
          rw [show Rat.divInt (H m - L k) (X m - X k) = sl2 X L H k m from rfl] at HCD
          have HLA := hide (fun W => rless_any U (sl1 X L H k m) W HTT.out.fit HF1.out)
          have HLB := hide (fun W => rless_any (sl2 X L H k m) V W HF2.out HBB.out.fit)
          clear x1 x2 x3 x4 x5 x6 y1 y2 y3 y4 y5 y6 hinc
          obtain ⟨c0, c1, c2⟩ := HS.out _ HE.out.bel k hlk
          obtain ⟨d0, d1, d2⟩ := HS.out _ HE.out.bel m hmn
          go_upto_region 8 with fail
          go_quiet (fail)
          have E1 := HE.out.step (below_drewN (Below.refl _ _) nq)
          clear c0 c1 c2 d0 d1 d2 HE hbq v0
          go_upto_region 9 with fail
          generalize hwr : wr.drewN nq = wq at E1 ⊢
          clear hwr
          clear wr
          have HE := hide E1
          clear E1
          revert wq
          intro wr HE
          go_cut [9, 10] (fun x y wx => ∃ P9 Q9 : Nat, x = .pointer (some ⟨P9, 0, none⟩) ∧ y = .pointer (some ⟨Q9, 0, none⟩) ∧ P9 ≠ Q9 ∧ wr.heap.size ≤ P9 ∧ wr.heap.size ≤ Q9 ∧ RatAt wx P9 (sl1 X L H k m).num (sl1 X L H k m).den ∧ RatAt wx Q9 (sl2 X L H k m).num (sl2 X L H k m).den ∧ Below wr.heap.size wr wx)
          case first =>
            have hb1 := Below.refl wr.heap.size wr
            have HK : Hid (∀ W, Below wr.heap.size wr W → W.cell? ⟨b, off + m * 3 + 1, none⟩ = some (.int .i64 (L m)) ∧ W.cell? ⟨b, off + k * 3 + 2, none⟩ = some (.int .i64 (H k)) ∧ W.cell? ⟨b, off + m * 3 + 2, none⟩ = some (.int .i64 (H m)) ∧ W.cell? ⟨b, off + k * 3 + 1, none⟩ = some (.int .i64 (L k)) ∧ Below wr.heap.size wr W) := hide fun W h => ⟨(HS.out W (rat_trans HE.out.bel h) m hmn).2.1, (HS.out W (rat_trans HE.out.bel h) k hlk).2.2, (HS.out W (rat_trans HE.out.bel h) m hmn).2.2, (HS.out W (rat_trans HE.out.bel h) k hlk).2.1, h⟩
            have hbb := hb1
            have hbq := Nat.lt_of_lt_of_le hlt HE.out.bel.size
            clear HLA HLB HF1 HF2 HTT HBB
            go_region_held3 (fun W => W.cell? ⟨b, off + m * 3 + 1, none⟩ = some (.int .i64 (L m)) ∧ W.cell? ⟨b, off + k * 3 + 2, none⟩ = some (.int .i64 (H k)) ∧ W.cell? ⟨b, off + m * 3 + 2, none⟩ = some (.int .i64 (H m)) ∧ W.cell? ⟨b, off + k * 3 + 1, none⟩ = some (.int .i64 (L k)) ∧ Below wr.heap.size wr W)
              (exact HK.out _ (by (repeat (first | with_reducible exact hbb | with_reducible exact hb1 | with_reducible refine Below.setCell ?_ (by first | exact Nat.le_refl _ | exact hbb.size | (simp; done) | (have := hbb.size; simp; omega)) _ | with_reducible refine rat_up ?_ _ | with_reducible refine Below.drew ?_ | with_reducible refine below_drewN ?_ _))))
              (first | (go_at_call 44; with_reducible refine (HCU.out _).mono ?_; rintro e wu ⟨rfl, hbc⟩; have hbb : Below wr.heap.size wr wu := rat_trans (by (repeat (first | with_reducible exact hbb | with_reducible exact hb1 | with_reducible refine Below.setCell ?_ (by first | exact Nat.le_refl _ | exact hbb.size | (simp; done) | (have := hbb.size; simp; omega)) _ | with_reducible refine rat_up ?_ _ | with_reducible refine Below.drew ?_ | with_reducible refine below_drewN ?_ _))) hbc; (first | have zA : RatAt wu (wr.heap.size) 0 0 := RatAt.step (RatAt.fresh rfl) hbc | have zA : RatAt wu (wr.heap.size) 0 0 := RatAt.step (RatAt.drew (RatAt.fresh rfl)) hbc | have zA : RatAt wu (wr.heap.size) 0 0 := RatAt.step ((RatAt.fresh rfl).alloc _) hbc | have zA : RatAt wu (wr.heap.size) 0 0 := RatAt.step (RatAt.drew ((RatAt.fresh rfl).alloc _)) hbc | skip); (first | have zB : RatAt wu (wr.heap.size + 1) 0 0 := RatAt.step (RatAt.fresh1 rfl) hbc | have zB : RatAt wu (wr.heap.size + 1) 0 0 := RatAt.step (RatAt.drew (RatAt.fresh1 rfl)) hbc | skip); have hs0 := hbb.size; clear hbc; (try (obtain ⟨zA0, zA1, zAf⟩ := RatAt.cells zA; have zAl := RatAt.lt zA)); (try (obtain ⟨zB0, zB1, zBf⟩ := RatAt.cells zB; have zBl := RatAt.lt zB))) | (go_at_call 44; with_reducible refine (HCD.out _).mono ?_; rintro e wd ⟨rfl, hbc⟩; have hbb : Below wr.heap.size wr wd := rat_trans (by (repeat (first | with_reducible exact hbb | with_reducible exact hb1 | with_reducible refine Below.setCell ?_ (by first | exact Nat.le_refl _ | exact hbb.size | (simp; done) | (have := hbb.size; simp; omega)) _ | with_reducible refine rat_up ?_ _ | with_reducible refine Below.drew ?_ | with_reducible refine below_drewN ?_ _))) hbc; (first | have zC : RatAt wd (wr.heap.size) 0 0 := RatAt.step (zA) hbc | have zC : RatAt wd (wr.heap.size) 0 0 := RatAt.step (RatAt.drew zA) hbc | have zC : RatAt wd (wr.heap.size) 0 0 := RatAt.step (zA.alloc _) hbc | have zC : RatAt wd (wr.heap.size) 0 0 := RatAt.step (RatAt.drew (zA.alloc _)) hbc | have zC : RatAt wd (wr.heap.size) 0 0 := RatAt.step ((zA.alloc _).alloc _) hbc | have zC : RatAt wd (wr.heap.size) 0 0 := RatAt.step (RatAt.drew ((zA.alloc _).alloc _)) hbc | skip); (first | have zD : RatAt wd (wr.heap.size + 1) 0 0 := RatAt.step (zB) hbc | have zD : RatAt wd (wr.heap.size + 1) 0 0 := RatAt.step (RatAt.drew zB) hbc | have zD : RatAt wd (wr.heap.size + 1) 0 0 := RatAt.step (zB.alloc _) hbc | have zD : RatAt wd (wr.heap.size + 1) 0 0 := RatAt.step (RatAt.drew (zB.alloc _)) hbc | have zD : RatAt wd (wr.heap.size + 1) 0 0 := RatAt.step ((zB.alloc _).alloc _) hbc | have zD : RatAt wd (wr.heap.size + 1) 0 0 := RatAt.step (RatAt.drew ((zB.alloc _).alloc _)) hbc | skip); (first | have zE : RatAt wd (wu.heap.size) 0 0 := RatAt.step (RatAt.fresh rfl) hbc | have zE : RatAt wd (wu.heap.size) 0 0 := RatAt.step (RatAt.drew (RatAt.fresh rfl)) hbc | have zE : RatAt wd (wu.heap.size) 0 0 := RatAt.step ((RatAt.fresh rfl).alloc _) hbc | have zE : RatAt wd (wu.heap.size) 0 0 := RatAt.step (RatAt.drew ((RatAt.fresh rfl).alloc _)) hbc | skip); (first | have zF : RatAt wd (wu.heap.size + 1) 0 0 := RatAt.step (RatAt.fresh1 rfl) hbc | have zF : RatAt wd (wu.heap.size + 1) 0 0 := RatAt.step (RatAt.drew (RatAt.fresh1 rfl)) hbc | skip); have hs1 := hbb.size; clear hbc; (try (obtain ⟨zC0, zC1, zCf⟩ := RatAt.cells zC; have zCl := RatAt.lt zC)); (try (obtain ⟨zD0, zD1, zDf⟩ := RatAt.cells zD; have zDl := RatAt.lt zD)); (try (obtain ⟨zE0, zE1, zEf⟩ := RatAt.cells zE; have zEl := RatAt.lt zE)); (try (obtain ⟨zF0, zF1, zFf⟩ := RatAt.cells zF; have zFl := RatAt.lt zF))))
            all_goals (go_wp2_with fail; go_meet)
            all_goals (refine ⟨_, _, rfl, rfl, by omega, by first | exact Nat.le_refl _ | omega, by first | exact Nat.le_refl _ | omega, ?_, ?_, ?_⟩)
            all_goals (first | ((repeat (first | with_reducible exact zC | with_reducible exact zD | with_reducible exact zE | with_reducible exact zF | with_reducible exact RatAt.newv rfl | with_reducible exact RatAt.newv1 rfl | with_reducible exact RatAt.newv (by simp [World.setCell]) | with_reducible exact RatAt.fresh rfl | with_reducible exact RatAt.fresh1 rfl | with_reducible refine RatAt.put (n := 0) (d := 0) ?_ _ _ | with_reducible refine RatAt.other ?_ (by omega) _ _ | with_reducible refine RatAt.alloc ?_ _ | with_reducible refine RatAt.drewN ?_ _ | with_reducible refine RatAt.drew ?_)); done) | (repeat (first | with_reducible exact hbb | with_reducible exact hb1 | with_reducible refine Below.setCell ?_ (by first | exact Nat.le_refl _ | exact hbb.size | (simp; done) | (have := hbb.size; simp; omega)) _ | with_reducible refine rat_up ?_ _ | with_reducible refine Below.drew ?_ | with_reducible refine below_drewN ?_ _)))
          case rest =>
            obtain ⟨P9, Q9, rfl, rfl, pq, hp, hq, R9, S9, T⟩ := hcut
            have n1 : P ≠ Q9 := by have := HE.out.tp.lt; omega
            have E3 := HE.out.step T
            clear HE T hp hq pq HCU HCD
            obtain ⟨t60, t61, t6f⟩ := E3.tp.cells
            obtain ⟨u0, u1, _⟩ := R9.cells
            have HE := hide E3
            have HU := hide R9
            have HV := hide S9
            clear E3 R9 S9
            go_wp2_with fail
            refine (HLA.out _).mono ?_
            rintro e w4 ⟨rfl, hb4⟩
            clear t60 t61 t6f u0 u1
            have E4 := HE.out.step hb4
            have U4 := HU.out.step hb4
            have V4 := HV.out.step hb4
            clear hb4 HE HU HV HLA
            by_cases hA : U < sl1 X L H k m
            · have HT5 := hide (HTT.out.turn (T := fun x y => x < k ∨ (x = k ∧ y < m + 1)) hkm hmn (by intro a b h; omega) hA HF1.out)
              rw [decide_eq_true hA]
              obtain ⟨t60, t61, t6f⟩ := E4.tp.cells
              obtain ⟨u0, u1, _⟩ := U4.cells
              have E5 := hide (E4.setP (sl1 X L H k m).num (sl1 X L H k m).den)
              have V5 := hide (V4.other (Ne.symm n1) (.int .i64 (sl1 X L H k m).num) (.int .i64 (sl1 X L H k m).den))
              clear E4 U4 V4 hA
              go_upto_region 12 with fail
              generalize hW5 : (w4.setCell ⟨P, 0, none⟩ (.int .i64 (sl1 X L H k m).num)).setCell ⟨P, 1, none⟩ (.int .i64 (sl1 X L H k m).den) = W5 at E5 V5 ⊢
              clear hW5 t60 t61 t6f u0 u1
              obtain ⟨t70, t71, t7f⟩ := E5.out.tq.cells
              obtain ⟨v0, v1, _⟩ := V5.out.cells
              go_wp2_with fail
              refine (HLB.out _).mono ?_
              rintro e w6 ⟨rfl, hb6⟩
              clear t70 t71 t7f v0 v1
              have E6 := E5.out.step hb6
              have V6 := V5.out.step hb6
              clear hb6 E5 V5
              by_cases hB : sl2 X L H k m < V
              · have B7 := hide (HBB.out.turn (T := fun x y => x < k ∨ (x = k ∧ y < m + 1)) hkm hmn (by intro a b h; omega) hB HF2.out)
                rw [decide_eq_true hB]
                obtain ⟨t70, t71, t7f⟩ := E6.tq.cells
                obtain ⟨v0, v1, _⟩ := V6.cells
                have E7 := hide (E6.setQ (sl2 X L H k m).num (sl2 X L H k m).den)
                clear E6 V6 hB HLB
                go_wp2
                go_roundw
                case rel => exact ⟨m + 1, _, _, by omega, by omega, by go_num, HT5.out, B7.out, E7.out⟩
                case measure => (simp [intOf]) <;> omega
              · have B7 := hide (HBB.out.keep (T := fun x y => x < k ∨ (x = k ∧ y < m + 1)) (i := k) (j := m) (by intro a b h; omega) (Rat.not_lt.1 hB))
                rw [decide_eq_false hB]
                have E7 := hide E6
                clear E6 V6 hB HLB
                go_wp2
                go_roundw
                case rel => exact ⟨m + 1, _, _, by omega, by omega, by go_num, HT5.out, B7.out, E7.out⟩
                case measure => (simp [intOf]) <;> omega
            · have HT5 := hide (HTT.out.keep (T := fun x y => x < k ∨ (x = k ∧ y < m + 1)) (i := k) (j := m) (by intro a b h; omega) (Rat.not_lt.1 hA))
              rw [decide_eq_false hA]
              have E5 := hide E4
              have V5 := hide V4
              clear E4 U4 V4 hA
              go_upto_region 12 with fail
              generalize hW5 : w4 = W5 at E5 V5 ⊢
              clear hW5
              obtain ⟨t70, t71, t7f⟩ := E5.out.tq.cells
              obtain ⟨v0, v1, _⟩ := V5.out.cells
              go_wp2_with fail
              refine (HLB.out _).mono ?_
              rintro e w6 ⟨rfl, hb6⟩
              clear t70 t71 t7f v0 v1
              have E6 := E5.out.step hb6
              have V6 := V5.out.step hb6
              clear hb6 E5 V5
              by_cases hB : sl2 X L H k m < V
              · have B7 := hide (HBB.out.turn (T := fun x y => x < k ∨ (x = k ∧ y < m + 1)) hkm hmn (by intro a b h; omega) hB HF2.out)
                rw [decide_eq_true hB]
                obtain ⟨t70, t71, t7f⟩ := E6.tq.cells
                obtain ⟨v0, v1, _⟩ := V6.cells
                have E7 := hide (E6.setQ (sl2 X L H k m).num (sl2 X L H k m).den)
                clear E6 V6 hB HLB
                go_wp2
                go_roundw
                case rel => exact ⟨m + 1, _, _, by omega, by omega, by go_num, HT5.out, B7.out, E7.out⟩
                case measure => (simp [intOf]) <;> omega
              · have B7 := hide (HBB.out.keep (T := fun x y => x < k ∨ (x = k ∧ y < m + 1)) (i := k) (j := m) (by intro a b h; omega) (Rat.not_lt.1 hB))
                rw [decide_eq_false hB]
                have E7 := hide E6
                clear E6 V6 hB HLB
                go_wp2
                go_roundw
                case rel => exact ⟨m + 1, _, _, by omega, by omega, by go_num, HT5.out, B7.out, E7.out⟩
                case measure => (simp [intOf]) <;> omega
        · have hmq : decide ((m : Int) < (n : Int)) = false := by simp; omega
          have e : m = n := by omega
          have HE := hide EE
          have T8 := hide (tt.sub (T := fun x _ => x < k + 1) (by intro a b h1 h2 h3; omega))
          have B8 := hide (bb.sub (T := fun x _ => x < k + 1) (by intro a b h1 h2 h3; omega))
          clear tt bb EE e
          go_wp2
          go_roundw
          case rel => exact ⟨k + 1, U, V, by omega, by go_num, T8.out, B8.out, HE.out⟩
          case measure => (simp [intOf]) <;> omega
    · have e : k = n := by omega
      subst e
      have T8 := hide (tt.sub (T := fun _ _ => True) (by intro a b h1 h2 h3; omega))
      have B8 := hide (bb.sub (T := fun _ _ => True) (by intro a b h1 h2 h3; omega))
      generalize hp : U.num = p at EE
      generalize hq : (U.den : Int) = q at EE
      generalize hr : V.num = r at EE
      generalize hs : (V.den : Int) = s at EE
      have HPQR := hide (And.intro hp (And.intro hq (And.intro hr hs)))
      clear hp hq hr hs tt bb
      obtain ⟨p60, p61, _⟩ := EE.tp.cells
      obtain ⟨p70, p71, _⟩ := EE.tq.cells
      obtain ⟨z40, z41, z4f⟩ := EE.r4.cells
      obtain ⟨z50, z51, z5f⟩ := EE.r5.cells
      have np := EE.np
      have nq := EE.nq
      have lp := EE.tp.lt
      have lq := EE.tq.lt
      have HB := hide EE.bel
      have hkk : decide ((k : Int) < (k : Int)) = false := by simp
      have HK := hide (fun W (z : Kp (fun x => x = w.heap.size ∨ x = w.heap.size + 1) wr.heap.size wr W) => And.intro ((z.cell (k := P) (o := 0) lp (by omega)).trans p60) (And.intro ((z.cell (k := P) (o := 1) lp (by omega)).trans p61) (And.intro ((z.cell (k := Q) (o := 0) lq (by omega)).trans p70) ((z.cell (k := Q) (o := 1) lq (by omega)).trans p71))))
      clear EE
      go_upto_region 14 with fail
      go_region_held3 (fun W => W.cell? ⟨P, 0, none⟩ = some (.int .i64 p) ∧ W.cell? ⟨P, 1, none⟩ = some (.int .i64 q) ∧ W.cell? ⟨Q, 0, none⟩ = some (.int .i64 r) ∧ W.cell? ⟨Q, 1, none⟩ = some (.int .i64 s))
        (exact HK.out _ (by repeat (first | exact Kp.refl _ _ _ | with_reducible refine Kp.setCell ?_ (by dsimp only; omega) _ | with_reducible refine Kp.drew ?_ | with_reducible refine Kp.drewN ?_ _))) (first | fail)
      all_goals
        go_wp2
        refine bodyPost_ret (v := .tuple #[.agg #[.int .i64 p, .int .i64 q], .agg #[.int .i64 r, .int .i64 s]]) (by simp [results, Try.results30, go_sem, *]; try omega) rfl ?_
        refine ⟨U, V, by rw [HPQR.out.1, HPQR.out.2.1, HPQR.out.2.2.1, HPQR.out.2.2.2], T8.out, B8.out, ?_⟩
        repeat (first | with_reducible refine Below.drew ?_ | with_reducible refine Below.setCell ?_ (by first | (dsimp only; omega) | (simp; omega)) _ | exact HB.out)
end Go.Proofs.Ytjjhdigbgmbmnaa.Skw
