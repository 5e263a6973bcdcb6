/- The contract of skew.ends over the bounds of values. -/
import Derived.Test.YtjjhdigbgmbmnaaSkwJ
namespace Go.Proofs.Ytjjhdigbgmbmnaa.Skw
open Go.RowKit Aid Fx
set_option maxRecDepth 100000 in
set_option maxHeartbeats 12800000 in
theorem ends_at (g : Nat) (a : Option Addr) (n cap : Nat) (X L H : Nat → Int) (N1 D1 N2 D2 : Nat → Nat → Int) (w : World) (hr : GatesAt w a n X L H) (hn2 : 2 ≤ n) (hcap : n ≤ cap)
    (hc : ∀ W, Below w.heap.size w W → ∀ i j, i < j → j < n → Calls Try.prog 39 #[gateV (X i) (L i) (H i), gateV (X j) (L j) (H j), .pointer (some ⟨g, 0, none⟩)] W fun e w' => e = .returned (.tuple #[ratV (N1 i j) (D1 i j), ratV (N2 i j) (D2 i j)]) ∧ Below W.heap.size W w')
    (hd : ∀ i j, i < j → j < n → (1 ≤ D1 i j ∧ D1 i j ≤ 1073741824 ∧ 1 ≤ D2 i j ∧ D2 i j ≤ 1073741824 ∧ -4611686018427387904 ≤ N1 i j ∧ N1 i j ≤ 4611686018427387904 ∧ -4611686018427387904 ≤ N2 i j ∧ N2 i j ≤ 4611686018427387904)) :
    Calls Try.prog 38 #[.slice a n cap, .func (.func 39) #[] #[.pointer (some ⟨g, 0, none⟩)]] w fun e w' => ∃ p q r s, e = .returned (.tuple #[ratV p q, ratV r s]) ∧ TopSo N1 D1 n (fun _ _ => True) p q ∧ BotSo N2 D2 n (fun _ _ => True) r s ∧ Below w.heap.size w w' := by
  obtain ⟨b, off, rfl, hlt, hc0⟩ := hr.at_ (by omega)
  simp only [gateV, ratV] at hc ⊢
  have hn63 := hr.1
  clear hr
  have HC := hide hc
  have HD := hide hd
  have HG := hide hc0
  clear hc hd hc0
  go_enter Try.func38, Try.ntmps38
  go_upto_region 1 with fail
  have HB0 : Hid (Below w.heap.size w ((w.alloc (.cells #[.int .i64 0, .int .i64 0] 26)).alloc (.cells #[.int .i64 0, .int .i64 0] 26))) := hide (((Below.refl _ _).alloc (Nat.le_refl _) _).alloc (by simp) _)
  have HR4 : Hid (RatAt ((w.alloc (.cells #[.int .i64 0, .int .i64 0] 26)).alloc (.cells #[.int .i64 0, .int .i64 0] 26)) w.heap.size 0 0) := hide ((RatAt.fresh rfl).alloc _)
  have HR5 : Hid (RatAt ((w.alloc (.cells #[.int .i64 0, .int .i64 0] 26)).alloc (.cells #[.int .i64 0, .int .i64 0] 26)) (w.heap.size + 1) 0 0) := hide (RatAt.fresh1 rfl)
  generalize hW0 : ((w.alloc (.cells #[.int .i64 0, .int .i64 0] 26)).alloc (.cells #[.int .i64 0, .int .i64 0] 26)) = W0 at *
  have hz : W0.heap.size = w.heap.size + 2 := by rw [← hW0]; simp
  clear hW0
  have HS : Hid (∀ W, Below w.heap.size w W → ∀ i, i < n → W.cell? ⟨b, off + i * 3, none⟩ = some (.int .i64 (X i)) ∧ W.cell? ⟨b, off + i * 3 + 1, none⟩ = some (.int .i64 (L i)) ∧ W.cell? ⟨b, off + i * 3 + 2, none⟩ = some (.int .i64 (H i))) :=
    hide fun W h i hi => ⟨(h.cell (p := ⟨b, _, none⟩) hlt).trans (HG.out i hi).1, (h.cell (p := ⟨b, _, none⟩) hlt).trans (HG.out i hi).2.1, (h.cell (p := ⟨b, _, none⟩) hlt).trans (HG.out i hi).2.2⟩
  have HT : Hid (∀ W, Below W0.heap.size W0 W → Below w.heap.size w W) := hide fun W h => HB0.out.trans (h.mono (by omega))
  have b1 : (1 : Int) < (n : Int) := by omega
  have b0 : (0 : Int) < (n : Int) := by omega
  have b2 : 0 < n := by omega
  have b3 : 1 < n := by omega
  have HK : Hid (∀ W, Below W0.heap.size W0 W → W.cell? ⟨b, off, none⟩ = some (.int .i64 (X 0)) ∧ W.cell? ⟨b, off + 1, none⟩ = some (.int .i64 (L 0)) ∧ W.cell? ⟨b, off + 2, none⟩ = some (.int .i64 (H 0)) ∧ W.cell? ⟨b, off + 3, none⟩ = some (.int .i64 (X 1)) ∧ W.cell? ⟨b, off + 3 + 1, none⟩ = some (.int .i64 (L 1)) ∧ W.cell? ⟨b, off + 3 + 2, none⟩ = some (.int .i64 (H 1)) ∧ Below W0.heap.size W0 W) := by
    refine hide fun W h => ?_
    have h0 := HS.out W (HT.out W h) 0 b2
    have h1 := HS.out W (HT.out W h) 1 b3
    simp only [Nat.zero_mul, Nat.one_mul, Nat.add_zero] at h0 h1
    exact ⟨h0.1, h0.2.1, h0.2.2, h1.1, h1.2.1, h1.2.2, h⟩
  have HZ := hide hz
  clear hz
  go_cut [6, 7] (fun x y wx => ∃ P Q : Nat, x = .pointer (some ⟨P, 0, none⟩) ∧ y = .pointer (some ⟨Q, 0, none⟩) ∧ P ≠ Q ∧ W0.heap.size ≤ P ∧ W0.heap.size ≤ Q ∧ RatAt wx P (N1 0 1) (D1 0 1) ∧ RatAt wx Q (N2 0 1) (D2 0 1) ∧ Below W0.heap.size W0 wx)
  case first =>
    have hb1 := Below.refl W0.heap.size W0
    have hbb := hb1
    go_region_held3 (fun W => W.cell? ⟨b, off, none⟩ = some (.int .i64 (X 0)) ∧ W.cell? ⟨b, off + 1, none⟩ = some (.int .i64 (L 0)) ∧ W.cell? ⟨b, off + 2, none⟩ = some (.int .i64 (H 0)) ∧ W.cell? ⟨b, off + 3, none⟩ = some (.int .i64 (X 1)) ∧ W.cell? ⟨b, off + 3 + 1, none⟩ = some (.int .i64 (L 1)) ∧ W.cell? ⟨b, off + 3 + 2, none⟩ = some (.int .i64 (H 1)) ∧ Below W0.heap.size W0 W)
      (exact HK.out _ (by (repeat (first | with_reducible exact hbb | with_reducible exact hb1 | with_reducible refine Below.setCell ?_ (by first | exact Nat.le_refl _ | exact hbb.size | (simp; done) | (have := hbb.size; simp; omega)) _ | with_reducible refine rat_up ?_ _ | with_reducible refine Below.drew ?_ | with_reducible refine below_drewN ?_ _))))
      (first | (go_at_call 39; with_reducible refine (HC.out _ (HT.out _ (by (repeat (first | with_reducible exact hbb | with_reducible exact hb1 | with_reducible refine Below.setCell ?_ (by first | exact Nat.le_refl _ | exact hbb.size | (simp; done) | (have := hbb.size; simp; omega)) _ | with_reducible refine rat_up ?_ _ | with_reducible refine Below.drew ?_ | with_reducible refine below_drewN ?_ _)))) 0 1 (by omega) (by omega)).mono ?_; rintro e wc ⟨rfl, hbc⟩; have hbb : Below W0.heap.size W0 wc := rat_trans (by (repeat (first | with_reducible exact hbb | with_reducible exact hb1 | with_reducible refine Below.setCell ?_ (by first | exact Nat.le_refl _ | exact hbb.size | (simp; done) | (have := hbb.size; simp; omega)) _ | with_reducible refine rat_up ?_ _ | with_reducible refine Below.drew ?_ | with_reducible refine below_drewN ?_ _))) hbc; (first | have zA : RatAt wc (W0.heap.size) 0 0 := RatAt.step (RatAt.fresh rfl) hbc | have zA : RatAt wc (W0.heap.size) 0 0 := RatAt.step (RatAt.drew (RatAt.fresh rfl)) hbc | have zA : RatAt wc (W0.heap.size) 0 0 := RatAt.step (RatAt.fresh1 rfl) hbc | have zA : RatAt wc (W0.heap.size) 0 0 := RatAt.step (RatAt.drew (RatAt.fresh1 rfl)) hbc | have zA : RatAt wc (W0.heap.size) 0 0 := RatAt.step ((RatAt.fresh rfl).alloc _) hbc | have zA : RatAt wc (W0.heap.size) 0 0 := RatAt.step (RatAt.drew ((RatAt.fresh rfl).alloc _)) hbc | skip); (first | have zB : RatAt wc (W0.heap.size + 1) 0 0 := RatAt.step (RatAt.fresh rfl) hbc | have zB : RatAt wc (W0.heap.size + 1) 0 0 := RatAt.step (RatAt.drew (RatAt.fresh rfl)) hbc | have zB : RatAt wc (W0.heap.size + 1) 0 0 := RatAt.step (RatAt.fresh1 rfl) hbc | have zB : RatAt wc (W0.heap.size + 1) 0 0 := RatAt.step (RatAt.drew (RatAt.fresh1 rfl)) hbc | have zB : RatAt wc (W0.heap.size + 1) 0 0 := RatAt.step ((RatAt.fresh rfl).alloc _) hbc | have zB : RatAt wc (W0.heap.size + 1) 0 0 := RatAt.step (RatAt.drew ((RatAt.fresh rfl).alloc _)) hbc | skip); have hs0 := hbb.size; clear hbc; (try (obtain ⟨zA0, zA1, zAf⟩ := RatAt.cells zA; have zAl := RatAt.lt zA)); (try (obtain ⟨zB0, zB1, zBf⟩ := RatAt.cells zB; have zBl := RatAt.lt zB))))
    all_goals (go_wp2_with fail; go_meet)
    all_goals (refine ⟨_, _, rfl, rfl, by omega, by first | exact Nat.le_refl _ | omega, by first | exact Nat.le_refl _ | omega, ?_, ?_, ?_⟩)
    all_goals (first | ((repeat (first | with_reducible exact zA | with_reducible exact zB | with_reducible exact RatAt.newv rfl | with_reducible exact RatAt.newv1 rfl | with_reducible exact RatAt.newv (by simp [World.setCell]) | with_reducible exact RatAt.fresh rfl | with_reducible exact RatAt.fresh1 rfl | with_reducible refine RatAt.put (n := 0) (d := 0) ?_ _ _ | with_reducible refine RatAt.other ?_ (by omega) _ _ | with_reducible refine RatAt.alloc ?_ _ | with_reducible refine RatAt.drewN ?_ _ | with_reducible refine RatAt.drew ?_)); done) | (repeat (first | with_reducible exact hbb | with_reducible exact hb1 | with_reducible refine Below.setCell ?_ (by first | exact Nat.le_refl _ | exact hbb.size | (simp; done) | (have := hbb.size; simp; omega)) _ | with_reducible refine rat_up ?_ _ | with_reducible refine Below.drew ?_ | with_reducible refine below_drewN ?_ _)))
  case rest =>
    obtain ⟨P, Q, rfl, rfl, pq, hp, hq, TP, TQ, T⟩ := hcut
    have E0 : Hid (Ends w P Q (N1 0 1) (D1 0 1) (N2 0 1) (D2 0 1) wc) := hide ⟨HT.out _ T, HR4.out.step T, HR5.out.step T, TP, TQ, by have := HZ.out; omega, by have := HZ.out; omega, pq⟩
    clear TP TQ T hp hq pq HB0 HR4 HR5 HT HK HZ
    go_wp2
    go_loopw [27] (fun i wr => ∃ (k : Nat) (p q r s : Int), k ≤ n ∧ i = .int .i64 k ∧ TopSo N1 D1 n (fun _ y => y < k) p q ∧ BotSo N2 D2 n (fun _ y => y < k) r s ∧ Ends w P Q p q r s wr) (fun i _ => n - (intOf i).toNat)
    case atStart => exact ⟨0, _, _, _, _, Nat.zero_le _, rfl, ⟨⟨0, 1, by omega, b3, rfl, rfl⟩, fun _ _ _ _ h => absurd h (by omega)⟩, ⟨⟨0, 1, by omega, b3, rfl, rfl⟩, fun _ _ _ _ h => absurd h (by omega)⟩, E0.out⟩
    case round =>
      clear E0
      obtain ⟨k, p, q, r, s, hk, rfl, tt, bb, EE⟩ := hrel
      by_cases hlk : k < n
      · obtain ⟨c0, c1, c2⟩ := HS.out wr EE.bel k hlk
        have hkq : (k : Int) < (n : Int) := by omega
        have hbs := EE.bel.size
        have hbq : b < wr.heap.size := by omega
        have HE := hide EE
        have HTT := hide tt
        have HBB := hide bb
        clear EE tt bb hbs
        go_upto_region 5 with fail
        have GB := GBox.new wr (X k) (L k) (H k)
        have E1 := HE.out.step ((Below.refl wr.heap.size wr).alloc (Nat.le_refl _) (.cells #[.int .i64 (X k), .int .i64 (L k), .int .i64 (H k)] 43))
        have n9 : wr.heap.size ≠ P ∧ wr.heap.size ≠ Q := ⟨by have := HE.out.tp.lt; omega, by have := HE.out.tq.lt; omega⟩
        clear hbq HE c0 c1 c2
        generalize hWk : wr.alloc (.cells #[.int .i64 (X k), .int .i64 (L k), .int .i64 (H k)] 43) = Wk at GB E1 ⊢
        clear hWk
        generalize hg9 : wr.heap.size = g9 at GB n9 ⊢
        clear hg9
        have HN := hide n9
        clear n9
        have HGB := hide GB
        have HE1 := hide E1
        clear GB E1
        have l1 : (k : Int) ≤ (n : Int) := by omega
        have l2 : (k : Int) ≤ (cap : Int) := by omega
        go_wp2
        go_loopw [36] (fun i wx => ∃ (m : Nat) (p q r s : Int), m ≤ k ∧ i = .int .i64 m ∧ TopSo N1 D1 n (fun x y => y < k ∨ (y = k ∧ x < m)) p q ∧ BotSo N2 D2 n (fun x y => y < k ∨ (y = k ∧ x < m)) r s ∧ Ends w P Q p q r s wx ∧ GBox wx g9 (X k) (L k) (H k)) (fun i _ => k - (intOf i).toNat)
        case atStart => exact ⟨0, p, q, r, s, Nat.zero_le _, rfl, HTT.out.sub (by intro a b h1 h2 h3; omega), HBB.out.sub (by intro a b h1 h2 h3; omega), HE1.out, HGB.out⟩
        case round =>
          clear HTT HBB HE1 HGB
          clear p q r s
          obtain ⟨m, p, q, r, s, hm, rfl, tt, bb, EE, GB⟩ := hrel
          by_cases hmk : m < k
          · obtain ⟨d0, d1, d2⟩ := HS.out _ EE.bel m (by omega)
            have hmq : (m : Int) < (k : Int) := by omega
            have hbq := Nat.lt_of_lt_of_le hlt EE.bel.size
            obtain ⟨g0, g1, g2⟩ := GB.cells
            have hgl := GB.lt
            have HGB := hide GB
            have HE := hide EE
            have HTT := hide tt
            have HBB := hide bb
            clear GB EE tt bb
            go_wp2_with fail
            refine (HC.out _ (rat_up HE.out.bel _) m k hmk hlk).mono ?_
            rintro e wc ⟨rfl, hbc⟩
            have E2 := (HE.out.step ((Below.refl _ _).alloc (Nat.le_refl _) (.cells #[.int .i64 (X m), .int .i64 (L m), .int .i64 (H m)] 43))).step hbc
            have G2 := (HGB.out.step ((Below.refl _ _).alloc (Nat.le_refl _) (.cells #[.int .i64 (X m), .int .i64 (L m), .int .i64 (H m)] 43))).step hbc
            clear hbc HE HGB g0 g1 g2 hgl d0 d1 d2 hbq
            go_upto_region 9 with fail
            have E3 := (E2.step ((Below.refl _ _).alloc (Nat.le_refl _) (.cells #[.int .i64 (N1 m k), .int .i64 (D1 m k)] 26))).step ((Below.refl _ _).alloc (Nat.le_refl _) (.cells #[.int .i64 (N2 m k), .int .i64 (D2 m k)] 26))
            have G3 := (G2.step ((Below.refl _ _).alloc (Nat.le_refl _) (.cells #[.int .i64 (N1 m k), .int .i64 (D1 m k)] 26))).step ((Below.refl _ _).alloc (Nat.le_refl _) (.cells #[.int .i64 (N2 m k), .int .i64 (D2 m k)] 26))
            have U3 : RatAt ((wc.alloc (.cells #[.int .i64 (N1 m k), .int .i64 (D1 m k)] 26)).alloc (.cells #[.int .i64 (N2 m k), .int .i64 (D2 m k)] 26)) wc.heap.size (N1 m k) (D1 m k) := (RatAt.newv rfl).alloc _
            have V3 : RatAt ((wc.alloc (.cells #[.int .i64 (N1 m k), .int .i64 (D1 m k)] 26)).alloc (.cells #[.int .i64 (N2 m k), .int .i64 (D2 m k)] 26)) (wc.heap.size + 1) (N2 m k) (D2 m k) := RatAt.newv1 rfl
            have n1 := E2.tp.lt
            have n2 := E2.tq.lt
            have n3 := G2.lt
            have n5 : P ≠ wc.heap.size + 1 := by omega
            have n6 : P ≠ wc.heap.size := by omega
            have n7 : Q ≠ wc.heap.size + 1 := by omega
            clear E2 G2
            generalize hW3 : ((wc.alloc (.cells #[.int .i64 (N1 m k), .int .i64 (D1 m k)] 26)).alloc (.cells #[.int .i64 (N2 m k), .int .i64 (D2 m k)] 26)) = W3 at E3 G3 U3 V3 ⊢
            clear hW3
            generalize hg12 : wc.heap.size = g12 at U3 V3 n1 n2 n3 n5 n6 n7 ⊢
            clear hg12
            obtain ⟨B1, B2, B3, B4, B5, B6, B7, B8⟩ := HD.out m k hmk hlk
            obtain ⟨y1, y2⟩ : (1 ≤ q ∧ q ≤ 1073741824) ∧ (-4611686018427387904 ≤ p ∧ p ≤ 4611686018427387904) := by
              obtain ⟨i, j, h1, h2, rfl, rfl⟩ := HTT.out.i
              have := HD.out i j h1 h2
              omega
            obtain ⟨y3, y4⟩ : (1 ≤ s ∧ s ≤ 1073741824) ∧ (-4611686018427387904 ≤ r ∧ r ≤ 4611686018427387904) := by
              obtain ⟨i, j, h1, h2, rfl, rfl⟩ := HBB.out.i
              have := HD.out i j h1 h2
              omega
            have HCA := hide (fun W => compare_any (N1 m k) (D1 m k) p q W ⟨B1, B2⟩ y1 ⟨B5, B6⟩ y2)
            have HCB := hide (fun W => compare_any (N2 m k) (D2 m k) r s W ⟨B3, B4⟩ y3 ⟨B7, B8⟩ y4)
            have HPA := hide (cmp_pos (an := N1 m k) (bn := p) (show 0 < D1 m k by omega) (show 0 < q by omega))
            have HPB := hide (cmp_neg (an := N2 m k) (bn := r) (show 0 < D2 m k by omega) (show 0 < s by omega))
            clear B1 B2 B3 B4 B5 B6 B7 B8 y1 y2 y3 y4
            generalize hca : cmpV (N1 m k) (D1 m k) p q = ca at HCA HPA
            generalize hcb : cmpV (N2 m k) (D2 m k) r s = cb at HCB HPB
            clear hca hcb
            obtain ⟨t60, t61, t6f⟩ := E3.tp.cells
            obtain ⟨u0, u1, _⟩ := U3.cells
            have HE := hide E3
            have HG := hide G3
            have HU := hide U3
            have HV := hide V3
            clear E3 G3 U3 V3 n1 n2 n3
            go_wp2_with fail
            refine (HCA.out _).mono ?_
            rintro e w4 ⟨rfl, hb4⟩
            clear t60 t61 t6f u0 u1
            have E4 := HE.out.step hb4
            have G4 := HG.out.step hb4
            have U4 := HU.out.step hb4
            have V4 := HV.out.step hb4
            clear hb4 HE HG HU HV HCA
            by_cases hA : 0 < ca
            · have T5 := HTT.out.turn (T := fun x y => y < k ∨ (y = k ∧ x < m + 1)) hmk hlk (by intro a b h; omega) (HPA.out.1 hA)
              have HT5 := hide T5
              obtain ⟨t60, t61, t6f⟩ := E4.tp.cells
              obtain ⟨u0, u1, _⟩ := U4.cells
              have E5 := hide (E4.setP (N1 m k) (D1 m k))
              have G5 := hide (G4.other HN.out.1 (.int .i64 (N1 m k)) (.int .i64 (D1 m k)))
              have V5 := hide (V4.other (Ne.symm n5) (.int .i64 (N1 m k)) (.int .i64 (D1 m k)))
              clear T5 E4 G4 U4 V4
              go_upto_region 11 with fail
              generalize hW5 : (w4.setCell ⟨P, 0, none⟩ (.int .i64 (N1 m k))).setCell ⟨P, 1, none⟩ (.int .i64 (D1 m k)) = W5 at E5 G5 V5 ⊢
              clear hW5 t60 t61 t6f u0 u1
              obtain ⟨t70, t71, t7f⟩ := E5.out.tq.cells
              obtain ⟨v0, v1, _⟩ := V5.out.cells
              go_wp2_with fail
              refine (HCB.out _).mono ?_
              rintro e w6 ⟨rfl, hb6⟩
              clear t70 t71 t7f v0 v1
              have E6 := E5.out.step hb6
              have G6 := G5.out.step hb6
              have V6 := V5.out.step hb6
              clear hb6 E5 G5 V5
              by_cases hB : cb < 0
              · have B7 := hide (HBB.out.turn (T := fun x y => y < k ∨ (y = k ∧ x < m + 1)) hmk hlk (by intro a b h; omega) (HPB.out.1 hB))
                obtain ⟨t70, t71, t7f⟩ := E6.tq.cells
                obtain ⟨v0, v1, _⟩ := V6.cells
                have E7 := hide (E6.setQ (N2 m k) (D2 m k))
                have G7 := hide (G6.other HN.out.2 (.int .i64 (N2 m k)) (.int .i64 (D2 m k)))
                clear E6 G6 V6
                go_wp2
                go_roundw
                case rel => exact ⟨m + 1, _, _, _, _, by omega, by go_num, HT5.out, B7.out, E7.out, G7.out⟩
                case measure => (simp [intOf]) <;> omega
              · have B7 := hide (HBB.out.keep (T := fun x y => y < k ∨ (y = k ∧ x < m + 1)) (i := m) (j := k) (by intro a b h; omega) (Rat.not_lt.1 fun h => hB (HPB.out.2 h)))
                have hB2 : decide (cb < 0) = false := by simp; omega
                have E7 := hide E6
                have G7 := hide G6
                clear E6 G6 V6
                go_wp2
                go_roundw
                case rel => exact ⟨m + 1, _, _, _, _, by omega, by go_num, HT5.out, B7.out, E7.out, G7.out⟩
                case measure => (simp [intOf]) <;> omega
            · have T5 := HTT.out.keep (T := fun x y => y < k ∨ (y = k ∧ x < m + 1)) (i := m) (j := k) (by intro a b h; omega) (Rat.not_lt.1 fun h => hA (HPA.out.2 h))
              have HT5 := hide T5
              have E5 := hide E4
              have G5 := hide G4
              have V5 := hide V4
              have hA2 : decide (0 < ca) = false := by simp; omega
              clear T5 E4 G4 U4 V4
              go_upto_region 11 with fail
              generalize hW5 : w4 = W5 at E5 G5 V5 ⊢
              clear hW5
              obtain ⟨t70, t71, t7f⟩ := E5.out.tq.cells
              obtain ⟨v0, v1, _⟩ := V5.out.cells
              go_wp2_with fail
              refine (HCB.out _).mono ?_
              rintro e w6 ⟨rfl, hb6⟩
              clear t70 t71 t7f v0 v1
              have E6 := E5.out.step hb6
              have G6 := G5.out.step hb6
              have V6 := V5.out.step hb6
              clear hb6 E5 G5 V5
              by_cases hB : cb < 0
              · have B7 := hide (HBB.out.turn (T := fun x y => y < k ∨ (y = k ∧ x < m + 1)) hmk hlk (by intro a b h; omega) (HPB.out.1 hB))
                obtain ⟨t70, t71, t7f⟩ := E6.tq.cells
                obtain ⟨v0, v1, _⟩ := V6.cells
                have E7 := hide (E6.setQ (N2 m k) (D2 m k))
                have G7 := hide (G6.other HN.out.2 (.int .i64 (N2 m k)) (.int .i64 (D2 m k)))
                clear E6 G6 V6
                go_wp2
                go_roundw
                case rel => exact ⟨m + 1, _, _, _, _, by omega, by go_num, HT5.out, B7.out, E7.out, G7.out⟩
                case measure => (simp [intOf]) <;> omega
              · have B7 := hide (HBB.out.keep (T := fun x y => y < k ∨ (y = k ∧ x < m + 1)) (i := m) (j := k) (by intro a b h; omega) (Rat.not_lt.1 fun h => hB (HPB.out.2 h)))
                have hB2 : decide (cb < 0) = false := by simp; omega
                have E7 := hide E6
                have G7 := hide G6
                clear E6 G6 V6
                go_wp2
                go_roundw
                case rel => exact ⟨m + 1, _, _, _, _, by omega, by go_num, HT5.out, B7.out, E7.out, G7.out⟩
                case measure => (simp [intOf]) <;> omega
          · have hmq : decide ((m : Int) < (k : Int)) = false := by simp; omega
            have e : m = k := by omega
            subst e
            have HE := hide EE
            have T8 := hide (tt.sub (T := fun _ y => y < m + 1) (by intro a b h1 h2 h3; omega))
            have B8 := hide (bb.sub (T := fun _ y => y < m + 1) (by intro a b h1 h2 h3; omega))
            clear tt bb EE GB
            go_wp2
            go_roundw
            case rel => exact ⟨m + 1, p, q, r, s, by omega, by go_num, T8.out, B8.out, HE.out⟩
            case measure => (simp [intOf]) <;> omega
      · have e : k = n := by omega
        subst e
        have T8 := hide (tt.sub (T := fun _ _ => True) (by intro a b h1 h2 h3; omega))
        have B8 := hide (bb.sub (T := fun _ _ => True) (by intro a b h1 h2 h3; omega))
        obtain ⟨p60, p61, _⟩ := EE.tp.cells
        obtain ⟨p70, p71, _⟩ := EE.tq.cells
        obtain ⟨z40, z41, z4f⟩ := EE.r4.cells
        obtain ⟨z50, z51, z5f⟩ := EE.r5.cells
        have np := EE.np
        have nq := EE.nq
        have lp := EE.tp.lt
        have lq := EE.tq.lt
        have HB := hide EE.bel
        have hkk : decide ((k : Int) < (k : Int)) = false := by simp
        have HK := hide (fun W (z : Kp (fun x => x = w.heap.size ∨ x = w.heap.size + 1) wr.heap.size wr W) => And.intro ((z.cell (k := P) (o := 0) lp (by omega)).trans p60) (And.intro ((z.cell (k := P) (o := 1) lp (by omega)).trans p61) (And.intro ((z.cell (k := Q) (o := 0) lq (by omega)).trans p70) ((z.cell (k := Q) (o := 1) lq (by omega)).trans p71))))
        have NE := hide (And.intro np nq)
        clear tt bb EE
        go_upto_region 15 with fail
        go_region_held3 (fun W => W.cell? ⟨P, 0, none⟩ = some (.int .i64 p) ∧ W.cell? ⟨P, 1, none⟩ = some (.int .i64 q) ∧ W.cell? ⟨Q, 0, none⟩ = some (.int .i64 r) ∧ W.cell? ⟨Q, 1, none⟩ = some (.int .i64 s))
          (exact HK.out _ (by repeat (first | exact Kp.refl _ _ _ | with_reducible refine Kp.setCell ?_ (by dsimp only; omega) _ | with_reducible refine Kp.drew ?_ | with_reducible refine Kp.drewN ?_ _))) (first | fail)
        all_goals
          go_wp2
          refine bodyPost_ret (v := .tuple #[.agg #[.int .i64 p, .int .i64 q], .agg #[.int .i64 r, .int .i64 s]]) (by simp [results, Try.results38, go_sem, *]; try omega) rfl ?_
          refine ⟨p, q, r, s, rfl, T8.out, B8.out, ?_⟩
          repeat (first | with_reducible refine Below.drew ?_ | with_reducible refine Below.setCell ?_ (by first | (dsimp only; omega) | (simp; omega)) _ | exact HB.out)
end Go.Proofs.Ytjjhdigbgmbmnaa.Skw
