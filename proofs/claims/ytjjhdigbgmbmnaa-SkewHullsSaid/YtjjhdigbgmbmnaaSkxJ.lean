/- The contract of the reference's greatest. -/
import Derived.Test.YtjjhdigbgmbmnaaSkxH
namespace Go.Proofs.Ytjjhdigbgmbmnaa.Skw
open Go.RowKit Aid Fx
/-- the least of the bounds looked at, from a first value on -/
structure GBot (X L H : Nat → Int) (x : Int) (n : Nat) (seen : Nat → Nat → Prop) (U : Rat) : Prop where
  i : U = Rat.divInt 4611686018427387904 1 ∨ ∃ i j, i < n ∧ j < n ∧ bdO (X i) (X j) x ∧ bdR (X i) (H i) (X j) (L j) (H j) x = U
  h : ∀ i j, i < n → j < n → seen i j → bdO (X i) (X j) x → U ≤ bdR (X i) (H i) (X j) (L j) (H j) x
  fit : Fit U
section
variable {X L H : Nat → Int} {x : Int} {n : Nat} {U : Rat} {S T : Nat → Nat → Prop} {i j : Nat}
theorem GBot.sub (h : GBot X L H x n S U) (hs : ∀ a b, a < n → b < n → T a b → S a b) : GBot X L H x n T U := ⟨h.i, fun a b h1 h2 h3 => h.h a b h1 h2 (hs a b h1 h2 h3), h.fit⟩
theorem GBot.skip (h : GBot X L H x n S U) (hs : ∀ a b, T a b → S a b ∨ (a = i ∧ b = j)) (hc : ¬ bdO (X i) (X j) x) : GBot X L H x n T U :=
  ⟨h.i, fun a b h1 h2 h3 h4 => by
    rcases hs a b h3 with k | ⟨rfl, rfl⟩
    · exact h.h a b h1 h2 k h4
    · exact absurd h4 hc, h.fit⟩
theorem GBot.keep (h : GBot X L H x n S U) (hs : ∀ a b, T a b → S a b ∨ (a = i ∧ b = j)) (hc : U ≤ bdR (X i) (H i) (X j) (L j) (H j) x) : GBot X L H x n T U :=
  ⟨h.i, fun a b h1 h2 h3 h4 => by
    rcases hs a b h3 with k | ⟨rfl, rfl⟩
    · exact h.h a b h1 h2 k h4
    · exact hc, h.fit⟩
theorem GBot.turn (h : GBot X L H x n S U) (hi : i < n) (hj : j < n) (ho : bdO (X i) (X j) x) (hs : ∀ a b, T a b → S a b ∨ (a = i ∧ b = j)) (hc : bdR (X i) (H i) (X j) (L j) (H j) x < U) (hf : Fit (bdR (X i) (H i) (X j) (L j) (H j) x)) : GBot X L H x n T (bdR (X i) (H i) (X j) (L j) (H j) x) :=
  ⟨.inr ⟨i, j, hi, hj, ho, rfl⟩, fun a b h1 h2 h3 h4 => by
    rcases hs a b h3 with k | ⟨rfl, rfl⟩
    · exact Rat.le_trans (Rat.le_of_lt hc) (h.h a b h1 h2 k h4)
    · exact Rat.le_refl, hf⟩
end
theorem bd_fit {ax al ah bx bl bh x : Int} (ha : InR ax al ah) (hb : InR bx bl bh) (hx : 0 ≤ x ∧ x ≤ 1073741824) (ho : bdO ax bx x) : Fit (bdR ax ah bx bl bh x) := by
  obtain ⟨ha1, ha2, ha3, ha4, ha5, ha6⟩ := ha
  obtain ⟨hb1, hb2, hb3, hb4, hb5, hb6⟩ := hb
  have m1 := mul_bd (a := ah) (b := bx - x) (by omega) (by omega) (by omega) (by omega)
  have m2 := mul_bd (a := bh) (b := x - ax) (by omega) (by omega) (by omega) (by omega)
  have m3 := mul_bd (a := ah) (b := ax - bx) (by omega) (by omega) (by omega) (by omega)
  have m4 := mul_bd2 (a := x - ax) (b := ah - bl) (by omega) (by omega) (by omega) (by omega)
  have m5 := mul_bd (a := ah) (b := bx - ax) (by omega) (by omega) (by omega) (by omega)
  have m6 := mul_bd2 (a := ax - x) (b := ah - bl) (by omega) (by omega) (by omega) (by omega)
  unfold bdR
  unfold bdO at ho
  split
  · exact fit_of (by omega) (by omega)
  split
  · exact fit_of (by omega) (by omega)
  split
  · exact fit_of (by omega) (by omega)
  · exact fit_of (by omega) (by omega)
/-- the state of the walk of greatest -/
structure On (w : World) (P : Nat) (p q : Int) (W : World) : Prop where
  bel : Below w.heap.size w W
  r4 : RatAt W w.heap.size 0 0
  tp : RatAt W P p q
  np : w.heap.size + 1 ≤ P
theorem On.step {w : World} {P : Nat} {p q : Int} {W W' : World} (h : On w P p q W) (k : Below W.heap.size W W') : On w P p q W' :=
  ⟨rat_trans h.bel k, h.r4.step k, h.tp.step k, h.np⟩
theorem On.setP {w : World} {P : Nat} {p q : Int} {W : World} (h : On w P p q W) (p' q' : Int) : On w P p' q' ((W.setCell ⟨P, 0, none⟩ (.int .i64 p')).setCell ⟨P, 1, none⟩ (.int .i64 q')) := by
  have := h.np
  exact ⟨(h.bel.setCell (p := ⟨P, 0, none⟩) (by dsimp only; omega) _).setCell (p := ⟨P, 1, none⟩) (by dsimp only; omega) _, h.r4.other (by omega) _ _, h.tp.put _ _, h.np⟩
theorem init_num3 : (Rat.divInt 4611686018427387904 1).num = 4611686018427387904 ∧ ((Rat.divInt 4611686018427387904 1).den : Int) = 1 := by decide +kernel
set_option maxRecDepth 100000 in
set_option maxHeartbeats 12800000 in
theorem greatest_any (a : Option Addr) (n cap : Nat) (X L H : Nat → Int) (x : Int) (w : World) (hr : GatesAt w a n X L H) (hR : ∀ i, i < n → InR (X i) (L i) (H i)) (h1 : 1 ≤ n) (hn : n ≤ 1024) (hx : 0 ≤ x ∧ x ≤ 1073741824) :
    Calls Try.prog 41 #[.slice a n cap, .int .i64 x] w fun e w' => ∃ U : Rat, e = .returned (.agg #[.int .i64 U.num, .int .i64 U.den]) ∧ GBot X L H x n (fun _ _ => True) U ∧ Below w.heap.size w w' := by
  obtain ⟨b, off, rfl, hlt, hc0⟩ := hr.at_ (by omega)
  have HGC := hide hc0
  have HS : Hid (∀ W, Below w.heap.size w W → ∀ i, i < n → W.cell? ⟨b, off + i * 3, none⟩ = some (.int .i64 (X i)) ∧ W.cell? ⟨b, off + i * 3 + 1, none⟩ = some (.int .i64 (L i)) ∧ W.cell? ⟨b, off + i * 3 + 2, none⟩ = some (.int .i64 (H i))) :=
    hide fun W h i hi => ⟨(h.cell (p := ⟨b, _, none⟩) hlt).trans (HGC.out i hi).1, (h.cell (p := ⟨b, _, none⟩) hlt).trans (HGC.out i hi).2.1, (h.cell (p := ⟨b, _, none⟩) hlt).trans (HGC.out i hi).2.2⟩
  have HRR := hide hR
  have HX := hide hx
  have E0 : Hid (On w (w.heap.size + 1) 4611686018427387904 1 ((w.alloc (.cells #[.int .i64 0, .int .i64 0] 26)).alloc (.cells #[.int .i64 4611686018427387904, .int .i64 1] 26))) := hide ⟨((Below.refl _ _).alloc (Nat.le_refl _) _).alloc (by simp) _, (RatAt.fresh rfl).alloc _, RatAt.newv (by simp), by omega⟩
  clear hr hc0 hR HGC hx
  go_enter Try.func41, Try.ntmps41
  go_upto_region 2 with fail
  generalize hW0 : ((w.alloc (.cells #[.int .i64 0, .int .i64 0] 26)).alloc (.cells #[.int .i64 4611686018427387904, .int .i64 1] 26)) = W0 at E0 ⊢
  clear hW0
  generalize hP : w.heap.size + 1 = P at E0 ⊢
  clear hP
  go_wp2
  go_loopw [6] (fun i wr => ∃ (k : Nat) (U : Rat), k ≤ n ∧ i = .int .i64 k ∧ GBot X L H x n (fun x _ => x < k) U ∧ On w P U.num U.den wr) (fun i _ => n - (intOf i).toNat)
  case atStart => exact ⟨0, _, Nat.zero_le _, rfl, ⟨.inl rfl, fun _ _ _ _ h => absurd h (by omega), fit_of (by omega) (by omega)⟩, by rw [init_num3.1, init_num3.2]; exact E0.out⟩
  case round =>
    clear E0
    obtain ⟨k, U, hk, rfl, bb, EE⟩ := hrel
    by_cases hlk : k < n
    · have hkq : (k : Int) < (n : Int) := by omega
      have HE := hide EE
      have HBB := hide bb
      clear EE bb
      go_wp2
      go_loopw [7] (fun i wx => ∃ (m : Nat) (U : Rat), m ≤ n ∧ i = .int .i64 m ∧ GBot X L H x n (fun x y => x < k ∨ (x = k ∧ y < m)) U ∧ On w P U.num U.den wx) (fun i _ => n - (intOf i).toNat)
      case atStart => exact ⟨0, U, by omega, rfl, HBB.out.sub (by intro a b h1 h2 h3; omega), HE.out⟩
      case round =>
        clear HBB HE U
        obtain ⟨m, U, hm, rfl, bb, EE⟩ := hrel
        by_cases hmn : m < n
        · have hmq : (m : Int) < (n : Int) := by omega
          have HE := hide EE
          have HBB := hide bb
          clear EE bb
          go_upto_region 8 with fail
          by_cases hbo : bdO (X k) (X m) x
          · have HF := hide (bd_fit (HRR.out k hlk) (HRR.out m hmn) HX.out hbo)
            have HCB := hide (fun W => bound_ok (X k) (L k) (H k) (X m) (L m) (H m) x W (HRR.out k hlk) (HRR.out m hmn) HX.out hbo)
            have HL := hide (fun W => rless_any (bdR (X k) (H k) (X m) (L m) (H m) x) U W HF.out HBB.out.fit)
            have HBO := hide hbo
            clear hbo
            obtain ⟨B, hB⟩ : ∃ B, B = bdR (X k) (H k) (X m) (L m) (H m) x := ⟨_, rfl⟩
            rw [← hB] at HCB HL HF
            have HEQ := hide hB
            clear hB
            go_cut [8, 9] (fun u v wx => ∃ P8 : Nat, u = .pointer (some ⟨P8, 0, none⟩) ∧ v = .bool true ∧ wr.heap.size ≤ P8 ∧ RatAt wx P8 B.num B.den ∧ Below wr.heap.size wr wx)
            case first =>
              have hb1 := Below.refl wr.heap.size wr
              have HK : Hid (∀ W, Below wr.heap.size wr W → W.cell? ⟨b, off + k * 3, none⟩ = some (.int .i64 (X k)) ∧ W.cell? ⟨b, off + k * 3 + 1, none⟩ = some (.int .i64 (L k)) ∧ W.cell? ⟨b, off + k * 3 + 2, none⟩ = some (.int .i64 (H k)) ∧ W.cell? ⟨b, off + m * 3, none⟩ = some (.int .i64 (X m)) ∧ W.cell? ⟨b, off + m * 3 + 1, none⟩ = some (.int .i64 (L m)) ∧ W.cell? ⟨b, off + m * 3 + 2, none⟩ = some (.int .i64 (H m)) ∧ Below wr.heap.size wr W) := hide fun W h => ⟨(HS.out W (rat_trans HE.out.bel h) k hlk).1, (HS.out W (rat_trans HE.out.bel h) k hlk).2.1, (HS.out W (rat_trans HE.out.bel h) k hlk).2.2, (HS.out W (rat_trans HE.out.bel h) m hmn).1, (HS.out W (rat_trans HE.out.bel h) m hmn).2.1, (HS.out W (rat_trans HE.out.bel h) m hmn).2.2, h⟩
              have hbb := hb1
              have hbq := Nat.lt_of_lt_of_le hlt HE.out.bel.size
              go_region_held3 (fun W => W.cell? ⟨b, off + k * 3, none⟩ = some (.int .i64 (X k)) ∧ W.cell? ⟨b, off + k * 3 + 1, none⟩ = some (.int .i64 (L k)) ∧ W.cell? ⟨b, off + k * 3 + 2, none⟩ = some (.int .i64 (H k)) ∧ W.cell? ⟨b, off + m * 3, none⟩ = some (.int .i64 (X m)) ∧ W.cell? ⟨b, off + m * 3 + 1, none⟩ = some (.int .i64 (L m)) ∧ W.cell? ⟨b, off + m * 3 + 2, none⟩ = some (.int .i64 (H m)) ∧ Below wr.heap.size wr W)
                (exact HK.out _ (by (repeat (first | with_reducible exact hbb | with_reducible exact hb1 | with_reducible refine Below.setCell ?_ (by first | exact Nat.le_refl _ | exact hbb.size | (simp; done) | (have := hbb.size; simp; omega)) _ | with_reducible refine rat_up ?_ _ | with_reducible refine Below.drew ?_ | with_reducible refine below_drewN ?_ _))))
                (first | (go_at_call 46; with_reducible refine (HCB.out _).mono ?_; rintro e wc ⟨rfl, hbc⟩; have hbb : Below wr.heap.size wr wc := rat_trans (by (repeat (first | with_reducible exact hbb | with_reducible exact hb1 | with_reducible refine Below.setCell ?_ (by first | exact Nat.le_refl _ | exact hbb.size | (simp; done) | (have := hbb.size; simp; omega)) _ | with_reducible refine rat_up ?_ _ | with_reducible refine Below.drew ?_ | with_reducible refine below_drewN ?_ _))) hbc; (first | have zA : RatAt wc (wr.heap.size) 0 0 := RatAt.step (RatAt.fresh rfl) hbc | have zA : RatAt wc (wr.heap.size) 0 0 := RatAt.step (RatAt.drew (RatAt.fresh rfl)) hbc | skip); have hs0 := hbb.size; clear hbc; (try (obtain ⟨zA0, zA1, zAf⟩ := RatAt.cells zA; have zAl := RatAt.lt zA))))
              all_goals (go_wp2_with fail; go_meet)
              all_goals (refine ⟨_, rfl, rfl, by first | exact Nat.le_refl _ | omega, ?_, ?_⟩)
              all_goals (first | ((repeat (first | with_reducible exact zA | with_reducible exact zB | with_reducible exact RatAt.newv rfl | with_reducible exact RatAt.newv1 rfl | with_reducible exact RatAt.newv (by simp [World.setCell]) | with_reducible exact RatAt.fresh rfl | with_reducible exact RatAt.fresh1 rfl | with_reducible refine RatAt.put (n := 0) (d := 0) ?_ _ _ | with_reducible refine RatAt.other ?_ (by omega) _ _ | with_reducible refine RatAt.alloc ?_ _ | with_reducible refine RatAt.drewN ?_ _ | with_reducible refine RatAt.drew ?_)); done) | (repeat (first | with_reducible exact hbb | with_reducible exact hb1 | with_reducible refine Below.setCell ?_ (by first | exact Nat.le_refl _ | exact hbb.size | (simp; done) | (have := hbb.size; simp; omega)) _ | with_reducible refine rat_up ?_ _ | with_reducible refine Below.drew ?_ | with_reducible refine below_drewN ?_ _)))
            case rest =>
              obtain ⟨P8, rfl, rfl, hp, R8, T⟩ := hcut
              have n1 : P < P8 := by have := HE.out.tp.lt; omega
              have E3 := HE.out.step T
              clear HE T hp HCB
              obtain ⟨t60, t61, t6f⟩ := E3.tp.cells
              obtain ⟨u0, u1, _⟩ := R8.cells
              have HE := hide E3
              have HU := hide R8
              clear E3 R8
              go_wp2_with fail
              with_reducible refine (HL.out _).mono ?_
              rintro e w4 ⟨rfl, hb4⟩
              clear t60 t61 t6f u0 u1
              have E4 := HE.out.step hb4
              have U4 := HU.out.step hb4
              clear hb4 HE HU HL
              by_cases hA : B < U
              · have HB5 := hide (HBB.out.turn (T := fun x y => x < k ∨ (x = k ∧ y < m + 1)) hlk hmn HBO.out (by intro a b h; omega) (HEQ.out ▸ hA) (HEQ.out ▸ HF.out))
                rw [← HEQ.out] at HB5
                rw [decide_eq_true hA]
                obtain ⟨t60, t61, t6f⟩ := E4.tp.cells
                obtain ⟨u0, u1, _⟩ := U4.cells
                have E5 := hide (E4.setP B.num B.den)
                clear E4 U4 hA
                go_wp2
                go_roundw
                case rel => exact ⟨m + 1, B, by omega, by go_num, HB5.out, E5.out⟩
                case measure => (simp [intOf]) <;> omega
              · have HB5 := hide (HBB.out.keep (T := fun x y => x < k ∨ (x = k ∧ y < m + 1)) (i := k) (j := m) (by intro a b h; omega) (HEQ.out ▸ Rat.not_lt.1 hA))
                rw [decide_eq_false hA]
                have E5 := hide E4
                clear E4 U4 hA
                go_wp2
                go_roundw
                case rel => exact ⟨m + 1, U, by omega, by go_num, HB5.out, E5.out⟩
                case measure => (simp [intOf]) <;> omega
          · have HCB := hide (fun W => bound_no (X k) (L k) (H k) (X m) (L m) (H m) x W (HRR.out k hlk) (HRR.out m hmn) HX.out hbo)
            have HB5 := hide (HBB.out.skip (T := fun x y => x < k ∨ (x = k ∧ y < m + 1)) (i := k) (j := m) (by intro a b h; omega) hbo)
            clear hbo HBB
            go_cut [8, 9] (fun u v wx => ∃ P8 : Nat, u = .pointer (some ⟨P8, 0, none⟩) ∧ v = .bool false ∧ wr.heap.size ≤ P8 ∧ RatAt wx P8 0 0 ∧ Below wr.heap.size wr wx)
            case first =>
              have hb1 := Below.refl wr.heap.size wr
              have HK : Hid (∀ W, Below wr.heap.size wr W → W.cell? ⟨b, off + k * 3, none⟩ = some (.int .i64 (X k)) ∧ W.cell? ⟨b, off + k * 3 + 1, none⟩ = some (.int .i64 (L k)) ∧ W.cell? ⟨b, off + k * 3 + 2, none⟩ = some (.int .i64 (H k)) ∧ W.cell? ⟨b, off + m * 3, none⟩ = some (.int .i64 (X m)) ∧ W.cell? ⟨b, off + m * 3 + 1, none⟩ = some (.int .i64 (L m)) ∧ W.cell? ⟨b, off + m * 3 + 2, none⟩ = some (.int .i64 (H m)) ∧ Below wr.heap.size wr W) := hide fun W h => ⟨(HS.out W (rat_trans HE.out.bel h) k hlk).1, (HS.out W (rat_trans HE.out.bel h) k hlk).2.1, (HS.out W (rat_trans HE.out.bel h) k hlk).2.2, (HS.out W (rat_trans HE.out.bel h) m hmn).1, (HS.out W (rat_trans HE.out.bel h) m hmn).2.1, (HS.out W (rat_trans HE.out.bel h) m hmn).2.2, h⟩
              have hbb := hb1
              have hbq := Nat.lt_of_lt_of_le hlt HE.out.bel.size
              go_region_held3 (fun W => W.cell? ⟨b, off + k * 3, none⟩ = some (.int .i64 (X k)) ∧ W.cell? ⟨b, off + k * 3 + 1, none⟩ = some (.int .i64 (L k)) ∧ W.cell? ⟨b, off + k * 3 + 2, none⟩ = some (.int .i64 (H k)) ∧ W.cell? ⟨b, off + m * 3, none⟩ = some (.int .i64 (X m)) ∧ W.cell? ⟨b, off + m * 3 + 1, none⟩ = some (.int .i64 (L m)) ∧ W.cell? ⟨b, off + m * 3 + 2, none⟩ = some (.int .i64 (H m)) ∧ Below wr.heap.size wr W)
                (exact HK.out _ (by (repeat (first | with_reducible exact hbb | with_reducible exact hb1 | with_reducible refine Below.setCell ?_ (by first | exact Nat.le_refl _ | exact hbb.size | (simp; done) | (have := hbb.size; simp; omega)) _ | with_reducible refine rat_up ?_ _ | with_reducible refine Below.drew ?_ | with_reducible refine below_drewN ?_ _))))
                (first | (go_at_call 46; with_reducible refine (HCB.out _).mono ?_; rintro e wc ⟨rfl, hbc⟩; have hbb : Below wr.heap.size wr wc := rat_trans (by (repeat (first | with_reducible exact hbb | with_reducible exact hb1 | with_reducible refine Below.setCell ?_ (by first | exact Nat.le_refl _ | exact hbb.size | (simp; done) | (have := hbb.size; simp; omega)) _ | with_reducible refine rat_up ?_ _ | with_reducible refine Below.drew ?_ | with_reducible refine below_drewN ?_ _))) hbc; (first | have zA : RatAt wc (wr.heap.size) 0 0 := RatAt.step (RatAt.fresh rfl) hbc | have zA : RatAt wc (wr.heap.size) 0 0 := RatAt.step (RatAt.drew (RatAt.fresh rfl)) hbc | skip); have hs0 := hbb.size; clear hbc; (try (obtain ⟨zA0, zA1, zAf⟩ := RatAt.cells zA; have zAl := RatAt.lt zA))))
              all_goals (go_wp2_with fail; go_meet)
              all_goals (refine ⟨_, rfl, rfl, by first | exact Nat.le_refl _ | omega, ?_, ?_⟩)
              all_goals (first | ((repeat (first | with_reducible exact zA | with_reducible exact zB | with_reducible exact RatAt.newv rfl | with_reducible exact RatAt.newv1 rfl | with_reducible exact RatAt.newv (by simp [World.setCell]) | with_reducible exact RatAt.fresh rfl | with_reducible exact RatAt.fresh1 rfl | with_reducible refine RatAt.put (n := 0) (d := 0) ?_ _ _ | with_reducible refine RatAt.other ?_ (by omega) _ _ | with_reducible refine RatAt.alloc ?_ _ | with_reducible refine RatAt.drewN ?_ _ | with_reducible refine RatAt.drew ?_)); done) | (repeat (first | with_reducible exact hbb | with_reducible exact hb1 | with_reducible refine Below.setCell ?_ (by first | exact Nat.le_refl _ | exact hbb.size | (simp; done) | (have := hbb.size; simp; omega)) _ | with_reducible refine rat_up ?_ _ | with_reducible refine Below.drew ?_ | with_reducible refine below_drewN ?_ _)))
            case rest =>
              obtain ⟨P8, rfl, rfl, hp, R8, T⟩ := hcut
              have n1 : P < P8 := by have := HE.out.tp.lt; omega
              have E3 := HE.out.step T
              clear HE T hp HCB
              have E5 := hide E3
              clear E3 R8
              go_wp2
              go_roundw
              case rel => exact ⟨m + 1, U, by omega, by go_num, HB5.out, E5.out⟩
              case measure => (simp [intOf]) <;> omega
        · have hmq : decide ((m : Int) < (n : Int)) = false := by simp; omega
          have HE := hide EE
          have B8 := hide (bb.sub (T := fun x _ => x < k + 1) (by intro a b h1 h2 h3; omega))
          clear bb EE
          go_wp2
          go_roundw
          case rel => exact ⟨k + 1, U, by omega, by go_num, B8.out, HE.out⟩
          case measure => (simp [intOf]) <;> omega
    · have e : k = n := by omega
      subst e
      have B8 := hide (bb.sub (T := fun _ _ => True) (by intro a b h1 h2 h3; omega))
      obtain ⟨p60, p61, _⟩ := EE.tp.cells
      obtain ⟨z40, z41, z4f⟩ := EE.r4.cells
      have HB := hide EE.bel
      have hkk : decide ((k : Int) < (k : Int)) = false := by simp
      clear EE bb
      go_wp2
      all_goals
        refine bodyPost_ret (v := .agg #[.int .i64 U.num, .int .i64 U.den]) (by simp [results, Try.results41, go_sem, *]; try omega) rfl ?_
        refine ⟨U, rfl, B8.out, ?_⟩
        repeat (first | with_reducible refine Below.drew ?_ | with_reducible refine below_drewN ?_ _ | with_reducible refine Below.setCell ?_ (by first | (dsimp only; omega) | (simp; omega)) _ | exact HB.out)
end Go.Proofs.Ytjjhdigbgmbmnaa.Skw
