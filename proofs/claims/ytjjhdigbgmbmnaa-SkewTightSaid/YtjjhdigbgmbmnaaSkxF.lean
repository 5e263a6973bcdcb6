/- The walk of the law SkewTight. -/
import Derived.Test.YtjjhdigbgmbmnaaSkxE
import Derived.Test.YtjjhdigbgmbmnaaSkwY
namespace Go.Proofs.Ytjjhdigbgmbmnaa.Skw
open Go.RowKit Aid Fx
set_option maxRecDepth 100000 in
set_option maxHeartbeats 25600000 in
theorem SkewTight_ok (a : Option Addr) (n cap : Nat) (X L H : Nat → Int) (w : World) (hr : GatesAt w a n X L H) (hcap : n ≤ cap) (h24 : n ≤ 24) (ok : GOk X L H n) (hn2 : 2 ≤ n) (hle : topR (sl1 X L H) n ≤ botR (sl2 X L H) n) :
    Calls Try.prog 7 #[.slice a n cap] w fun e w' => e = .returned (.bool true) ∧ Below w.heap.size w w' := by
  have CF := hide (fun W => few_any a n cap W)
  rw [decide_eq_true h24] at CF
  have CW := hide awake_any
  have HGT := hide (fun W (h : Below w.heap.size w W) => hr.below h)
  have HO := hide ok
  have HLE := hide hle
  have CC := hide (fun W (h : Below w.heap.size w W) => Check_any a n cap X L H W (HGT.out W h))
  rw [ok_chk ok] at CC
  have CP := hide (fun W (h : Below w.heap.size w W) => Passes_any a n cap X L H W (HGT.out W h) hcap)
  rw [decide_eq_true (show PaB X L H n from ⟨ok_chk ok, .inr hle⟩)] at CP
  have hE : slE X L H n = 0 := by unfold slE; rw [if_neg (by rw [ok_chk ok]; decide), if_neg (by rintro (k | k); omega; exact k hle)]
  have hS1 : slA X L H n = ((topR (sl1 X L H) n).num, ((topR (sl1 X L H) n).den : Int)) := by unfold slA; rw [if_pos hE]
  have hS2 : slB X L H n = ((botR (sl2 X L H) n).num, ((botR (sl2 X L H) n).den : Int)) := by unfold slB; rw [if_pos hE]
  have CS : Hid (∀ W, Below w.heap.size w W → Calls Try.prog 12 #[.slice a n cap] W fun e w' => e = .returned (.tuple #[.agg #[.int .i64 (topR (sl1 X L H) n).num, .int .i64 (topR (sl1 X L H) n).den], .agg #[.int .i64 (botR (sl2 X L H) n).num, .int .i64 (botR (sl2 X L H) n).den], .int .i64 0]) ∧ Below W.heap.size W w') := hide fun W h => by
    have k := Slopes_any a n cap X L H W (HGT.out W h) hcap
    rw [hE, hS1, hS2] at k
    exact k
  have NB := sl_num ok hn2
  have CR1 := hide (fun W => right_any (topR (sl1 X L H) n) W NB.1.1)
  have CR2 := hide (fun W => right_any (botR (sl2 X L H) n) W NB.2.1)
  have HA : Hid (FitI (topR (sl1 X L H) n).num (topR (sl1 X L H) n).den ∧ FitI (botR (sl2 X L H) n).num (botR (sl2 X L H) n).den ∧ ((-2147483648 ≤ (topR (sl1 X L H) n).num ∧ (topR (sl1 X L H) n).num ≤ 2147483648) ∧ (-2147483648 ≤ (botR (sl2 X L H) n).num ∧ (botR (sl2 X L H) n).num ≤ 2147483648)) ∧ Rat.divInt (topR (sl1 X L H) n).num (topR (sl1 X L H) n).den = topR (sl1 X L H) n ∧ Rat.divInt (botR (sl2 X L H) n).num (botR (sl2 X L H) n).den = botR (sl2 X L H) n) := hide ⟨NB.1.1, NB.2.1, ⟨NB.1.2, NB.2.2⟩, Rat.num_divInt_den _, Rat.num_divInt_den _⟩
  generalize (topR (sl1 X L H) n).num = a1 at CS CR1 HA
  generalize ((topR (sl1 X L H) n).den : Int) = a2 at CS CR1 HA
  generalize (botR (sl2 X L H) n).num = b1 at CS CR2 HA
  generalize ((botR (sl2 X L H) n).den : Int) = b2 at CS CR2 HA
  have hn63 := hr.1
  obtain ⟨b, off, rfl, hlt, hc0⟩ := hr.at_ (by omega)
  have HGC := hide hc0
  have HS : Hid (∀ W, Below w.heap.size w W → ∀ i, i < n → W.cell? ⟨b, off + i * 3, none⟩ = some (.int .i64 (X i)) ∧ W.cell? ⟨b, off + i * 3 + 1, none⟩ = some (.int .i64 (L i)) ∧ W.cell? ⟨b, off + i * 3 + 2, none⟩ = some (.int .i64 (H i))) :=
    hide fun W h i hi => ⟨(h.cell (p := ⟨b, _, none⟩) hlt).trans (HGC.out i hi).1, (h.cell (p := ⟨b, _, none⟩) hlt).trans (HGC.out i hi).2.1, (h.cell (p := ⟨b, _, none⟩) hlt).trans (HGC.out i hi).2.2⟩
  have hq2 : decide ((n : Int) < 2) = false := by simp; omega
  have f1 : decide (a1 < -2147483648) = false := by have := HA.out.2.2.1; simp; omega
  have f2 : decide (2147483648 < a1) = false := by have := HA.out.2.2.1; simp; omega
  have f3 : decide (b1 < -2147483648) = false := by have := HA.out.2.2.1; simp; omega
  have f4 : decide (2147483648 < b1) = false := by have := HA.out.2.2.1; simp; omega
  clear hr ok hle hE hS1 hS2 NB hc0 HGC HGT
  go_enter Try.func7, Try.ntmps7
  go_wp2_with fail
  with_reducible refine (CF.out _).mono ?_
  rintro e w1 ⟨rfl, hb⟩
  clear CF
  go_wp2_with fail
  with_reducible refine (CC.out _ hb).mono ?_
  rintro e w2 ⟨rfl, hb2⟩
  replace hb := rat_trans hb hb2
  clear hb2 CC
  go_wp2_with fail
  with_reducible refine (CS.out _ hb).mono ?_
  rintro e w3 ⟨rfl, hb3⟩
  replace hb := rat_trans hb hb3
  clear hb3 CS
  go_upto_region 4 with fail
  have hup := ((Below.refl w3.heap.size w3).alloc (Nat.le_refl _) (.cells #[.int .i64 (a1), .int .i64 a2] 26)).alloc (by simp) (.cells #[.int .i64 (b1), .int .i64 b2] 26)
  have EA := (RatAt.newv (n := a1) (d := a2) (W := w3) rfl).alloc (.cells #[.int .i64 (b1), .int .i64 b2] 26)
  have FA : RatAt ((w3.alloc (.cells #[.int .i64 (a1), .int .i64 a2] 26)).alloc (.cells #[.int .i64 (b1), .int .i64 b2] 26)) (w3.heap.size + 1) (b1) b2 := RatAt.newv1 rfl
  have sA : w.heap.size ≤ w3.heap.size := hb.size
  replace hb := rat_trans hb hup
  clear hup
  generalize hW : ((w3.alloc (.cells #[.int .i64 (a1), .int .i64 a2] 26)).alloc (.cells #[.int .i64 (b1), .int .i64 b2] 26)) = W3 at EA FA hb ⊢
  clear hW
  generalize w3.heap.size = A at EA FA sA  ⊢
  obtain ⟨a30, a31, _⟩ := EA.cells
  obtain ⟨a40, a41, _⟩ := FA.cells
  go_wp2_with fail
  with_reducible refine (CR1.out _).mono ?_
  rintro e w4 ⟨rfl, hb4⟩
  replace hb := rat_trans hb hb4
  replace EA := EA.step hb4
  replace FA := FA.step hb4
  clear hb4 a30 a31 a40 a41
  obtain ⟨a30, a31, _⟩ := EA.cells
  obtain ⟨a40, a41, _⟩ := FA.cells
  go_wp2_with fail
  with_reducible refine (CR2.out _).mono ?_
  rintro e w5 ⟨rfl, hb5⟩
  replace hb := rat_trans hb hb5
  replace EA := EA.step hb5
  replace FA := FA.step hb5
  clear hb5 a30 a31 a40 a41 CR1 CR2
  obtain ⟨a30, a31, _⟩ := EA.cells
  obtain ⟨a40, a41, _⟩ := FA.cells
  go_upto_region 8 with fail
  have hup := ((Below.refl w5.heap.size w5).alloc (Nat.le_refl _) (.cells #[.int .i64 (-1099511627776), .int .i64 1] 26)).alloc (by simp) (.cells #[.int .i64 (1099511627776), .int .i64 1] 26)
  have EP := (RatAt.newv (n := -1099511627776) (d := 1) (W := w5) rfl).alloc (.cells #[.int .i64 (1099511627776), .int .i64 1] 26)
  have FP : RatAt ((w5.alloc (.cells #[.int .i64 (-1099511627776), .int .i64 1] 26)).alloc (.cells #[.int .i64 (1099511627776), .int .i64 1] 26)) (w5.heap.size + 1) (1099511627776) 1 := RatAt.newv1 rfl
  have sP : w.heap.size ≤ w5.heap.size := hb.size
  have lEA := EA.lt
  have lFA := FA.lt
  replace hb := rat_trans hb hup
  replace EA := EA.step hup
  replace FA := FA.step hup
  clear hup
  generalize hW : ((w5.alloc (.cells #[.int .i64 (-1099511627776), .int .i64 1] 26)).alloc (.cells #[.int .i64 (1099511627776), .int .i64 1] 26)) = W5 at EP FP EA FA hb ⊢
  clear hW
  generalize w5.heap.size = P at EP FP sP lEA lFA ⊢
  have HF0 : Hid (Fo w A P a1 a2 b1 b2 (-1099511627776) 1 1099511627776 1 W5) := hide ⟨hb, EA, FA, EP, FP, sA, by omega⟩
  clear hb EA FA EP FP lEA lFA a30 a31 a40 a41 f1 f2 f3 f4 sP
  go_wp2
  go_loopw [6, 7, 10] (fun x0 y0 i wr => ∃ (k : Nat) (lw hw : Bool) (p q r s : Int), k ≤ n ∧ i = .int .i64 k ∧ x0 = .bool lw ∧ y0 = .bool hw ∧ Hit (sl1 X L H) n (topR (sl1 X L H) n) (fun x y => x < k) lw ∧ Hit (sl2 X L H) n (botR (sl2 X L H) n) (fun x y => x < k) hw ∧ RTop (sl1 X L H) n (Rat.divInt (-1099511627776) 1) (fun x y => x < k) (Rat.divInt p q) ∧ RBot (sl2 X L H) n (Rat.divInt 1099511627776 1) (fun x y => x < k) (Rat.divInt r s) ∧ FitI p q ∧ FitI r s ∧ Fo w A P a1 a2 b1 b2 p q r s wr) (fun _ _ i _ => n - (intOf i).toNat)
  case atStart => exact ⟨0, false, false, _, _, _, _, Nat.zero_le _, rfl, rfl, rfl, Hit.none (fun _ _ h => absurd h (by omega)), Hit.none (fun _ _ h => absurd h (by omega)), ⟨.inl rfl, fun _ _ _ _ h => absurd h (by omega), fit_of (by omega) (by omega)⟩, ⟨.inl rfl, fun _ _ _ _ h => absurd h (by omega), fit_of (by omega) (by omega)⟩, ⟨by omega, by omega⟩, ⟨by omega, by omega⟩, HF0.out⟩
  case round =>
    clear HF0
    obtain ⟨k, lw, hw, p, q, r, s, hk, rfl, rfl, rfl, h1, h2, tt, bb, fp, fq, GG⟩ := hrel
    by_cases hlk : k < n
    · have hkq : (k : Int) < (n : Int) := by omega
      have HG := hide GG
      have HTT := hide tt
      have HBB := hide bb
      have HFP := hide fp
      have HFQ := hide fq
      clear GG tt bb fp fq
      have H1 := hide h1
      have H2 := hide h2
      clear h1 h2
      have vk : IntKind.i64.wrap ((k : Int) + 1) = ((k + 1 : Nat) : Int) := by rw [show ((k + 1 : Nat) : Int) = (k : Int) + 1 by omega]; exact IntWalk.i64_in _ (by omega)
      go_wp2
      go_loopw [6, 7, 11] (fun x0 y0 i wx => ∃ (m : Nat) (lw hw : Bool) (p q r s : Int), k < m ∧ m ≤ n ∧ i = .int .i64 m ∧ x0 = .bool lw ∧ y0 = .bool hw ∧ Hit (sl1 X L H) n (topR (sl1 X L H) n) (fun x y => x < k ∨ (x = k ∧ y < m)) lw ∧ Hit (sl2 X L H) n (botR (sl2 X L H) n) (fun x y => x < k ∨ (x = k ∧ y < m)) hw ∧ RTop (sl1 X L H) n (Rat.divInt (-1099511627776) 1) (fun x y => x < k ∨ (x = k ∧ y < m)) (Rat.divInt p q) ∧ RBot (sl2 X L H) n (Rat.divInt 1099511627776 1) (fun x y => x < k ∨ (x = k ∧ y < m)) (Rat.divInt r s) ∧ FitI p q ∧ FitI r s ∧ Fo w A P a1 a2 b1 b2 p q r s wx) (fun _ _ i _ => n - (intOf i).toNat)
      case atStart => exact ⟨k + 1, lw, hw, p, q, r, s, by omega, by omega, by first | rfl | go_num, rfl, rfl, H1.out.sub (by intro a b h1 h2; omega), H2.out.sub (by intro a b h1 h2; omega), HTT.out.sub (by intro a b h1 h2 h3; omega), HBB.out.sub (by intro a b h1 h2 h3; omega), HFP.out, HFQ.out, HG.out⟩
      case round =>
        clear HTT HBB HG HFP HFQ vk H1 H2
        obtain ⟨m, lw, hw, p, q, r, s, hkm, hm, rfl, rfl, rfl, h1, h2, tt, bb, fp, fq, GG⟩ := hrel
        by_cases hmn : m < n
        · have hmq : (m : Int) < (n : Int) := by omega
          have hbq := Nat.lt_of_lt_of_le hlt GG.bel.size
          have HG := hide GG
          have HTT := hide tt
          have HBB := hide bb
          have HI3 := hide fp
          have HI4 := hide fq
          clear GG tt bb fp fq
          have H1 := hide h1
          have H2 := hide h2
          clear h1 h2
          obtain ⟨x1, x2, x3, x4, x5, x6⟩ := HO.out.r k hlk
          obtain ⟨y1, y2, y3, y4, y5, y6⟩ := HO.out.r m hmn
          have hinc := HO.out.inc k m hkm hmn
          have v0 : IntKind.i64.wrap (X m - X k) = X m - X k := IntWalk.i64_in _ (by omega)
          have v1 : IntKind.i64.wrap (L m - H k) = L m - H k := IntWalk.i64_in _ (by omega)
          have v2 : IntKind.i64.wrap (H m - L k) = H m - L k := IntWalk.i64_in _ (by omega)
          have HI1 : Hid (FitI (L m - H k) (X m - X k)) := hide ⟨by omega, by omega⟩
          have HI2 : Hid (FitI (H m - L k) (X m - X k)) := hide ⟨by omega, by omega⟩
          have HF1 : Hid (Fit (sl1 X L H k m)) := hide (fit_of (by omega) (by omega))
          have HF2 : Hid (Fit (sl2 X L H k m)) := hide (fit_of (by omega) (by omega))
          have HLA := hide (fun W => lless_any p q (L m - H k) (X m - X k) W HI3.out.1 HI1.out.1 HI3.out.2 HI1.out.2)
          have HLB := hide (fun W => lless_any (H m - L k) (X m - X k) r s W HI2.out.1 HI4.out.1 HI2.out.2 HI4.out.2)
          rw [show Rat.divInt (L m - H k) (X m - X k) = sl1 X L H k m from rfl] at HLA
          rw [show Rat.divInt (H m - L k) (X m - X k) = sl2 X L H k m from rfl] at HLB
          have HL3 := hide (fun W => lless_any a1 a2 (L m - H k) (X m - X k) W HA.out.1.1 HI1.out.1 HA.out.1.2 HI1.out.2)
          rw [decide_eq_false (show ¬ Rat.divInt a1 a2 < Rat.divInt (L m - H k) (X m - X k) by rw [HA.out.2.2.2.1]; exact Rat.not_lt.2 ((top_is hn2).2 k m hkm hmn))] at HL3
          have HL4 := hide (fun W => lless_any (H m - L k) (X m - X k) b1 b2 W HI2.out.1 HA.out.2.1.1 HI2.out.2 HA.out.2.1.2)
          rw [decide_eq_false (show ¬ Rat.divInt (H m - L k) (X m - X k) < Rat.divInt b1 b2 by rw [HA.out.2.2.2.2]; exact Rat.not_lt.2 ((bot_is hn2).2 k m hkm hmn))] at HL4
          have z1 := mul_bd2 (a := X m - X k) (b := a1) (by omega) (by omega) (by have := HA.out.2.2.1; omega) (by have := HA.out.2.2.1; omega)
          have z2 := mul_bd2 (a := X m - X k) (b := b1) (by omega) (by omega) (by have := HA.out.2.2.1; omega) (by have := HA.out.2.2.1; omega)
          have z3 := mul_bd2 (a := a2) (b := L m - H k) (by have := HA.out.1.1; omega) (by have := HA.out.1.1; omega) (by omega) (by omega)
          have z4 := mul_bd2 (a := b2) (b := H m - L k) (by have := HA.out.2.1.1; omega) (by have := HA.out.2.1.1; omega) (by omega) (by omega)
          rw [Int.mul_comm] at z1 z2 z3 z4
          have u1 : IntKind.i64.wrap (a1 * (X m - X k)) = a1 * (X m - X k) := IntWalk.i64_in _ (by omega)
          have u2 : IntKind.i64.wrap (b1 * (X m - X k)) = b1 * (X m - X k) := IntWalk.i64_in _ (by omega)
          have u3 : IntKind.i64.wrap ((L m - H k) * a2) = (L m - H k) * a2 := IntWalk.i64_in _ (by omega)
          have u4 : IntKind.i64.wrap ((H m - L k) * b2) = (H m - L k) * b2 := IntWalk.i64_in _ (by omega)
          have HE1 : Hid (sl1 X L H k m = topR (sl1 X L H) n ↔ a1 * (X m - X k) = (L m - H k) * a2) := hide (by rw [← HA.out.2.2.2.1]; unfold sl1; rw [eq_comm, eq_iff (by have := HA.out.1.1; omega) (by omega)])
          have HE2 : Hid (sl2 X L H k m = botR (sl2 X L H) n ↔ b1 * (X m - X k) = (H m - L k) * b2) := hide (by rw [← HA.out.2.2.2.2]; unfold sl2; rw [eq_comm, eq_iff (by have := HA.out.2.1.1; omega) (by omega)])
          clear z1 z2 z3 z4
          clear x1 x2 x3 x4 x5 x6 y1 y2 y3 y4 y5 y6 hinc
          obtain ⟨c0, c1, c2⟩ := HS.out _ HG.out.bel k hlk
          obtain ⟨d0, d1, d2⟩ := HS.out _ HG.out.bel m hmn
          go_upto_region 14 with fail
          go_quiet (fail)
          have E1 := HG.out.step (below_drewN (Below.refl _ _) nq)
          clear c0 c1 c2 d0 d1 d2 HG hbq v0
          go_upto_region 15 with fail
          generalize hwr : wr.drewN nq = wq at E1 ⊢
          clear hwr
          clear wr
          have HG := hide E1
          clear E1
          revert wq
          intro wr HG
          go_cut [13, 14] (fun x y wx => ∃ P9 Q9 : Nat, x = .pointer (some ⟨P9, 0, none⟩) ∧ y = .pointer (some ⟨Q9, 0, none⟩) ∧ P9 ≠ Q9 ∧ wr.heap.size ≤ P9 ∧ wr.heap.size ≤ Q9 ∧ RatAt wx P9 (L m - H k) (X m - X k) ∧ RatAt wx Q9 (H m - L k) (X m - X k) ∧ Below wr.heap.size wr wx)
          case first =>
            have hb1 := Below.refl wr.heap.size wr
            have HK : Hid (∀ W, Below wr.heap.size wr W → W.cell? ⟨b, off + m * 3 + 1, none⟩ = some (.int .i64 (L m)) ∧ W.cell? ⟨b, off + k * 3 + 2, none⟩ = some (.int .i64 (H k)) ∧ W.cell? ⟨b, off + m * 3 + 2, none⟩ = some (.int .i64 (H m)) ∧ W.cell? ⟨b, off + k * 3 + 1, none⟩ = some (.int .i64 (L k)) ∧ Below wr.heap.size wr W) := hide fun W h => ⟨(HS.out W (rat_trans HG.out.bel h) m hmn).2.1, (HS.out W (rat_trans HG.out.bel h) k hlk).2.2, (HS.out W (rat_trans HG.out.bel h) m hmn).2.2, (HS.out W (rat_trans HG.out.bel h) k hlk).2.1, h⟩
            have hbb := hb1
            have hbq := Nat.lt_of_lt_of_le hlt HG.out.bel.size
            clear HLA HLB HF1 HF2 HTT HBB
            go_region_held3 (fun W => W.cell? ⟨b, off + m * 3 + 1, none⟩ = some (.int .i64 (L m)) ∧ W.cell? ⟨b, off + k * 3 + 2, none⟩ = some (.int .i64 (H k)) ∧ W.cell? ⟨b, off + m * 3 + 2, none⟩ = some (.int .i64 (H m)) ∧ W.cell? ⟨b, off + k * 3 + 1, none⟩ = some (.int .i64 (L k)) ∧ Below wr.heap.size wr W)
              (exact HK.out _ (by (repeat (first | with_reducible exact hbb | with_reducible exact hb1 | with_reducible refine Below.setCell ?_ (by first | exact Nat.le_refl _ | exact hbb.size | (simp; done) | (have := hbb.size; simp; omega)) _ | with_reducible refine rat_up ?_ _ | with_reducible refine Below.drew ?_ | with_reducible refine below_drewN ?_ _))))
              (first | fail)
            all_goals (go_wp2_with fail; go_meet)
            all_goals (refine ⟨_, _, rfl, rfl, by omega, by first | exact Nat.le_refl _ | omega, by first | exact Nat.le_refl _ | omega, ?_, ?_, ?_⟩)
            all_goals (first | ((repeat (first | with_reducible exact zA | with_reducible exact zB | with_reducible exact RatAt.newv rfl | with_reducible exact RatAt.newv1 rfl | with_reducible exact RatAt.newv (by simp [World.setCell]) | with_reducible exact RatAt.fresh rfl | with_reducible exact RatAt.fresh1 rfl | with_reducible refine RatAt.put (n := 0) (d := 0) ?_ _ _ | with_reducible refine RatAt.other ?_ (by omega) _ _ | with_reducible refine RatAt.alloc ?_ _ | with_reducible refine RatAt.drewN ?_ _ | with_reducible refine RatAt.drew ?_)); done) | (repeat (first | with_reducible exact hbb | with_reducible exact hb1 | with_reducible refine Below.setCell ?_ (by first | exact Nat.le_refl _ | exact hbb.size | (simp; done) | (have := hbb.size; simp; omega)) _ | with_reducible refine rat_up ?_ _ | with_reducible refine Below.drew ?_ | with_reducible refine below_drewN ?_ _)))
          case rest =>
            obtain ⟨P9, Q9, rfl, rfl, pq, hp, hq, R9, S9, T⟩ := hcut
            have n1 : P + 1 < P9 := by have := HG.out.tq.lt; omega
            have n2 : P + 1 < Q9 := by have := HG.out.tq.lt; omega
            have G3 := HG.out.step T
            clear HG T hp hq pq
            obtain ⟨t60, t61, t6f⟩ := G3.tp.cells
            obtain ⟨u0, u1, _⟩ := R9.cells
            have HG := hide G3
            have HU := hide R9
            have HV := hide S9
            clear G3 R9 S9
            go_wp2_with fail
            with_reducible refine (HLA.out _).mono ?_
            rintro e w4 ⟨rfl, hb4⟩
            clear t60 t61 t6f u0 u1
            have G4 := HG.out.step hb4
            have U4 := HU.out.step hb4
            have V4 := HV.out.step hb4
            clear hb4 HG HU HV HLA
            by_cases hA : Rat.divInt p q < sl1 X L H k m
            · have HT5 := hide (HTT.out.turn (T := fun x y => x < k ∨ (x = k ∧ y < m + 1)) hkm hmn (by intro a b h; omega) hA HF1.out)
              have FP := hide HI1.out
              rw [decide_eq_true hA]
              obtain ⟨t60, t61, t6f⟩ := G4.tp.cells
              obtain ⟨u0, u1, _⟩ := U4.cells
              have G5 := hide (G4.setP (L m - H k) (X m - X k))
              have U5 := hide (U4.other (by omega : P9 ≠ P) (.int .i64 (L m - H k)) (.int .i64 (X m - X k)))
              have V5 := hide (V4.other (by omega : Q9 ≠ P) (.int .i64 (L m - H k)) (.int .i64 (X m - X k)))
              clear G4 U4 V4 hA
              go_upto_region 18 with fail
              generalize hW5 : (w4.setCell ⟨P, 0, none⟩ (.int .i64 (L m - H k))).setCell ⟨P, 1, none⟩ (.int .i64 (X m - X k)) = W5 at G5 U5 V5 ⊢
              clear hW5 t60 t61 t6f u0 u1
              obtain ⟨t70, t71, t7f⟩ := G5.out.tq.cells
              obtain ⟨v0, v1, _⟩ := V5.out.cells
              go_wp2_with fail
              with_reducible refine (HLB.out _).mono ?_
              rintro e w6 ⟨rfl, hb6⟩
              clear t70 t71 t7f v0 v1
              have G6 := G5.out.step hb6
              have U6 := U5.out.step hb6
              have V6 := V5.out.step hb6
              clear hb6 G5 U5 V5 HLB
              by_cases hB : sl2 X L H k m < Rat.divInt r s
              · have HB7 := hide (HBB.out.turn (T := fun x y => x < k ∨ (x = k ∧ y < m + 1)) hkm hmn (by intro a b h; omega) hB HF2.out)
                have FQ := hide HI2.out
                rw [decide_eq_true hB]
                obtain ⟨t70, t71, t7f⟩ := G6.tq.cells
                obtain ⟨v0, v1, _⟩ := V6.cells
                have G := G6.setQ (H m - L k) (X m - X k)
                have R9 := U6.other (by omega : P9 ≠ P + 1) (.int .i64 (H m - L k)) (.int .i64 (X m - X k))
                have S9 := V6.other (by omega : Q9 ≠ P + 1) (.int .i64 (H m - L k)) (.int .i64 (X m - X k))
                clear G6 U6 V6 hB
                go_upto_region 20 with fail
                generalize hW6 : (w6.setCell ⟨P + 1, 0, none⟩ (.int .i64 (H m - L k))).setCell ⟨P + 1, 1, none⟩ (.int .i64 (X m - X k)) = W6 at G R9 S9 ⊢
                clear hW6 t70 t71 t7f v0 v1
                obtain ⟨a30, a31, _⟩ := G.ra.cells
                obtain ⟨a40, a41, _⟩ := G.rb.cells
                obtain ⟨u0, u1, _⟩ := R9.cells
                obtain ⟨v0, v1, _⟩ := S9.cells
                have HG7 := hide G
                have HR9 := hide R9
                have HS9 := hide S9
                clear G R9 S9
                go_wp2_with fail
                with_reducible refine (HL3.out _).mono ?_
                rintro e w7 ⟨rfl, hb7⟩
                have G := HG7.out.step hb7
                have R9 := HR9.out.step hb7
                have S9 := HS9.out.step hb7
                clear a30 a31 a40 a41 u0 u1 v0 v1 HG7 HR9 HS9 hb7
                obtain ⟨a30, a31, _⟩ := G.ra.cells
                obtain ⟨a40, a41, _⟩ := G.rb.cells
                obtain ⟨u0, u1, _⟩ := R9.cells
                obtain ⟨v0, v1, _⟩ := S9.cells
                have HG7 := hide G
                have HR9 := hide R9
                have HS9 := hide S9
                clear G R9 S9
                go_wp2_with fail
                with_reducible refine (HL4.out _).mono ?_
                rintro e w8 ⟨rfl, hb8⟩
                have G := HG7.out.step hb8
                have R9 := HR9.out.step hb8
                have S9 := HS9.out.step hb8
                clear a30 a31 a40 a41 u0 u1 v0 v1 HG7 HR9 HS9 hb8
                obtain ⟨a30, a31, _⟩ := G.ra.cells
                obtain ⟨a40, a41, _⟩ := G.rb.cells
                obtain ⟨u0, u1, _⟩ := R9.cells
                obtain ⟨v0, v1, _⟩ := S9.cells
                have HG7 := hide G
                clear G R9 S9
                have H3 : Hid (Hit (sl1 X L H) n (topR (sl1 X L H) n) (fun x y => x < k ∨ (x = k ∧ y < m + 1)) (lw || decide (a1 * (X m - X k) = (L m - H k) * a2))) := hide (by
                  have z := H1.out.more (T := fun x y => x < k ∨ (x = k ∧ y < m + 1)) hkm hmn (by intro a b; omega)
                  rwa [show decide (sl1 X L H k m = topR (sl1 X L H) n) = decide (a1 * (X m - X k) = (L m - H k) * a2) from decide_eq_decide.2 HE1.out] at z)
                have H4 : Hid (Hit (sl2 X L H) n (botR (sl2 X L H) n) (fun x y => x < k ∨ (x = k ∧ y < m + 1)) (hw || decide (b1 * (X m - X k) = (H m - L k) * b2))) := hide (by
                  have z := H2.out.more (T := fun x y => x < k ∨ (x = k ∧ y < m + 1)) hkm hmn (by intro a b; omega)
                  rwa [show decide (sl2 X L H k m = botR (sl2 X L H) n) = decide (b1 * (X m - X k) = (H m - L k) * b2) from decide_eq_decide.2 HE2.out] at z)
                clear HE1 HE2
                clear H1 H2 HL3 HL4
                cases lw <;> cases hw
                all_goals
                  go_wp2
                  go_roundw
                  case rel => exact ⟨m + 1, _, _, _, _, _, _, by omega, by omega, by go_num, rfl, rfl, by first | exact H3.out | simpa using H3.out, by first | exact H4.out | simpa using H4.out, HT5.out, HB7.out, FP.out, FQ.out, HG7.out⟩
                  case measure => (simp [intOf]) <;> omega
              · have HB7 := hide (HBB.out.keep (T := fun x y => x < k ∨ (x = k ∧ y < m + 1)) (i := k) (j := m) (by intro a b h; omega) (Rat.not_lt.1 hB))
                have FQ := hide HI4.out
                rw [decide_eq_false hB]
                have G := G6
                have R9 := U6
                have S9 := V6
                clear G6 U6 V6 hB
                go_upto_region 20 with fail
                obtain ⟨a30, a31, _⟩ := G.ra.cells
                obtain ⟨a40, a41, _⟩ := G.rb.cells
                obtain ⟨u0, u1, _⟩ := R9.cells
                obtain ⟨v0, v1, _⟩ := S9.cells
                have HG7 := hide G
                have HR9 := hide R9
                have HS9 := hide S9
                clear G R9 S9
                go_wp2_with fail
                with_reducible refine (HL3.out _).mono ?_
                rintro e w7 ⟨rfl, hb7⟩
                have G := HG7.out.step hb7
                have R9 := HR9.out.step hb7
                have S9 := HS9.out.step hb7
                clear a30 a31 a40 a41 u0 u1 v0 v1 HG7 HR9 HS9 hb7
                obtain ⟨a30, a31, _⟩ := G.ra.cells
                obtain ⟨a40, a41, _⟩ := G.rb.cells
                obtain ⟨u0, u1, _⟩ := R9.cells
                obtain ⟨v0, v1, _⟩ := S9.cells
                have HG7 := hide G
                have HR9 := hide R9
                have HS9 := hide S9
                clear G R9 S9
                go_wp2_with fail
                with_reducible refine (HL4.out _).mono ?_
                rintro e w8 ⟨rfl, hb8⟩
                have G := HG7.out.step hb8
                have R9 := HR9.out.step hb8
                have S9 := HS9.out.step hb8
                clear a30 a31 a40 a41 u0 u1 v0 v1 HG7 HR9 HS9 hb8
                obtain ⟨a30, a31, _⟩ := G.ra.cells
                obtain ⟨a40, a41, _⟩ := G.rb.cells
                obtain ⟨u0, u1, _⟩ := R9.cells
                obtain ⟨v0, v1, _⟩ := S9.cells
                have HG7 := hide G
                clear G R9 S9
                have H3 : Hid (Hit (sl1 X L H) n (topR (sl1 X L H) n) (fun x y => x < k ∨ (x = k ∧ y < m + 1)) (lw || decide (a1 * (X m - X k) = (L m - H k) * a2))) := hide (by
                  have z := H1.out.more (T := fun x y => x < k ∨ (x = k ∧ y < m + 1)) hkm hmn (by intro a b; omega)
                  rwa [show decide (sl1 X L H k m = topR (sl1 X L H) n) = decide (a1 * (X m - X k) = (L m - H k) * a2) from decide_eq_decide.2 HE1.out] at z)
                have H4 : Hid (Hit (sl2 X L H) n (botR (sl2 X L H) n) (fun x y => x < k ∨ (x = k ∧ y < m + 1)) (hw || decide (b1 * (X m - X k) = (H m - L k) * b2))) := hide (by
                  have z := H2.out.more (T := fun x y => x < k ∨ (x = k ∧ y < m + 1)) hkm hmn (by intro a b; omega)
                  rwa [show decide (sl2 X L H k m = botR (sl2 X L H) n) = decide (b1 * (X m - X k) = (H m - L k) * b2) from decide_eq_decide.2 HE2.out] at z)
                clear HE1 HE2
                clear H1 H2 HL3 HL4
                cases lw <;> cases hw
                all_goals
                  go_wp2
                  go_roundw
                  case rel => exact ⟨m + 1, _, _, _, _, _, _, by omega, by omega, by go_num, rfl, rfl, by first | exact H3.out | simpa using H3.out, by first | exact H4.out | simpa using H4.out, HT5.out, HB7.out, FP.out, FQ.out, HG7.out⟩
                  case measure => (simp [intOf]) <;> omega
            · have HT5 := hide (HTT.out.keep (T := fun x y => x < k ∨ (x = k ∧ y < m + 1)) (i := k) (j := m) (by intro a b h; omega) (Rat.not_lt.1 hA))
              have FP := hide HI3.out
              rw [decide_eq_false hA]
              have G5 := hide G4
              have U5 := hide U4
              have V5 := hide V4
              clear G4 U4 V4 hA
              go_upto_region 18 with fail
              obtain ⟨t70, t71, t7f⟩ := G5.out.tq.cells
              obtain ⟨v0, v1, _⟩ := V5.out.cells
              go_wp2_with fail
              with_reducible refine (HLB.out _).mono ?_
              rintro e w6 ⟨rfl, hb6⟩
              clear t70 t71 t7f v0 v1
              have G6 := G5.out.step hb6
              have U6 := U5.out.step hb6
              have V6 := V5.out.step hb6
              clear hb6 G5 U5 V5 HLB
              by_cases hB : sl2 X L H k m < Rat.divInt r s
              · have HB7 := hide (HBB.out.turn (T := fun x y => x < k ∨ (x = k ∧ y < m + 1)) hkm hmn (by intro a b h; omega) hB HF2.out)
                have FQ := hide HI2.out
                rw [decide_eq_true hB]
                obtain ⟨t70, t71, t7f⟩ := G6.tq.cells
                obtain ⟨v0, v1, _⟩ := V6.cells
                have G := G6.setQ (H m - L k) (X m - X k)
                have R9 := U6.other (by omega : P9 ≠ P + 1) (.int .i64 (H m - L k)) (.int .i64 (X m - X k))
                have S9 := V6.other (by omega : Q9 ≠ P + 1) (.int .i64 (H m - L k)) (.int .i64 (X m - X k))
                clear G6 U6 V6 hB
                go_upto_region 20 with fail
                generalize hW6 : (w6.setCell ⟨P + 1, 0, none⟩ (.int .i64 (H m - L k))).setCell ⟨P + 1, 1, none⟩ (.int .i64 (X m - X k)) = W6 at G R9 S9 ⊢
                clear hW6 t70 t71 t7f v0 v1
                obtain ⟨a30, a31, _⟩ := G.ra.cells
                obtain ⟨a40, a41, _⟩ := G.rb.cells
                obtain ⟨u0, u1, _⟩ := R9.cells
                obtain ⟨v0, v1, _⟩ := S9.cells
                have HG7 := hide G
                have HR9 := hide R9
                have HS9 := hide S9
                clear G R9 S9
                go_wp2_with fail
                with_reducible refine (HL3.out _).mono ?_
                rintro e w7 ⟨rfl, hb7⟩
                have G := HG7.out.step hb7
                have R9 := HR9.out.step hb7
                have S9 := HS9.out.step hb7
                clear a30 a31 a40 a41 u0 u1 v0 v1 HG7 HR9 HS9 hb7
                obtain ⟨a30, a31, _⟩ := G.ra.cells
                obtain ⟨a40, a41, _⟩ := G.rb.cells
                obtain ⟨u0, u1, _⟩ := R9.cells
                obtain ⟨v0, v1, _⟩ := S9.cells
                have HG7 := hide G
                have HR9 := hide R9
                have HS9 := hide S9
                clear G R9 S9
                go_wp2_with fail
                with_reducible refine (HL4.out _).mono ?_
                rintro e w8 ⟨rfl, hb8⟩
                have G := HG7.out.step hb8
                have R9 := HR9.out.step hb8
                have S9 := HS9.out.step hb8
                clear a30 a31 a40 a41 u0 u1 v0 v1 HG7 HR9 HS9 hb8
                obtain ⟨a30, a31, _⟩ := G.ra.cells
                obtain ⟨a40, a41, _⟩ := G.rb.cells
                obtain ⟨u0, u1, _⟩ := R9.cells
                obtain ⟨v0, v1, _⟩ := S9.cells
                have HG7 := hide G
                clear G R9 S9
                have H3 : Hid (Hit (sl1 X L H) n (topR (sl1 X L H) n) (fun x y => x < k ∨ (x = k ∧ y < m + 1)) (lw || decide (a1 * (X m - X k) = (L m - H k) * a2))) := hide (by
                  have z := H1.out.more (T := fun x y => x < k ∨ (x = k ∧ y < m + 1)) hkm hmn (by intro a b; omega)
                  rwa [show decide (sl1 X L H k m = topR (sl1 X L H) n) = decide (a1 * (X m - X k) = (L m - H k) * a2) from decide_eq_decide.2 HE1.out] at z)
                have H4 : Hid (Hit (sl2 X L H) n (botR (sl2 X L H) n) (fun x y => x < k ∨ (x = k ∧ y < m + 1)) (hw || decide (b1 * (X m - X k) = (H m - L k) * b2))) := hide (by
                  have z := H2.out.more (T := fun x y => x < k ∨ (x = k ∧ y < m + 1)) hkm hmn (by intro a b; omega)
                  rwa [show decide (sl2 X L H k m = botR (sl2 X L H) n) = decide (b1 * (X m - X k) = (H m - L k) * b2) from decide_eq_decide.2 HE2.out] at z)
                clear HE1 HE2
                clear H1 H2 HL3 HL4
                cases lw <;> cases hw
                all_goals
                  go_wp2
                  go_roundw
                  case rel => exact ⟨m + 1, _, _, _, _, _, _, by omega, by omega, by go_num, rfl, rfl, by first | exact H3.out | simpa using H3.out, by first | exact H4.out | simpa using H4.out, HT5.out, HB7.out, FP.out, FQ.out, HG7.out⟩
                  case measure => (simp [intOf]) <;> omega
              · have HB7 := hide (HBB.out.keep (T := fun x y => x < k ∨ (x = k ∧ y < m + 1)) (i := k) (j := m) (by intro a b h; omega) (Rat.not_lt.1 hB))
                have FQ := hide HI4.out
                rw [decide_eq_false hB]
                have G := G6
                have R9 := U6
                have S9 := V6
                clear G6 U6 V6 hB
                go_upto_region 20 with fail
                obtain ⟨a30, a31, _⟩ := G.ra.cells
                obtain ⟨a40, a41, _⟩ := G.rb.cells
                obtain ⟨u0, u1, _⟩ := R9.cells
                obtain ⟨v0, v1, _⟩ := S9.cells
                have HG7 := hide G
                have HR9 := hide R9
                have HS9 := hide S9
                clear G R9 S9
                go_wp2_with fail
                with_reducible refine (HL3.out _).mono ?_
                rintro e w7 ⟨rfl, hb7⟩
                have G := HG7.out.step hb7
                have R9 := HR9.out.step hb7
                have S9 := HS9.out.step hb7
                clear a30 a31 a40 a41 u0 u1 v0 v1 HG7 HR9 HS9 hb7
                obtain ⟨a30, a31, _⟩ := G.ra.cells
                obtain ⟨a40, a41, _⟩ := G.rb.cells
                obtain ⟨u0, u1, _⟩ := R9.cells
                obtain ⟨v0, v1, _⟩ := S9.cells
                have HG7 := hide G
                have HR9 := hide R9
                have HS9 := hide S9
                clear G R9 S9
                go_wp2_with fail
                with_reducible refine (HL4.out _).mono ?_
                rintro e w8 ⟨rfl, hb8⟩
                have G := HG7.out.step hb8
                have R9 := HR9.out.step hb8
                have S9 := HS9.out.step hb8
                clear a30 a31 a40 a41 u0 u1 v0 v1 HG7 HR9 HS9 hb8
                obtain ⟨a30, a31, _⟩ := G.ra.cells
                obtain ⟨a40, a41, _⟩ := G.rb.cells
                obtain ⟨u0, u1, _⟩ := R9.cells
                obtain ⟨v0, v1, _⟩ := S9.cells
                have HG7 := hide G
                clear G R9 S9
                have H3 : Hid (Hit (sl1 X L H) n (topR (sl1 X L H) n) (fun x y => x < k ∨ (x = k ∧ y < m + 1)) (lw || decide (a1 * (X m - X k) = (L m - H k) * a2))) := hide (by
                  have z := H1.out.more (T := fun x y => x < k ∨ (x = k ∧ y < m + 1)) hkm hmn (by intro a b; omega)
                  rwa [show decide (sl1 X L H k m = topR (sl1 X L H) n) = decide (a1 * (X m - X k) = (L m - H k) * a2) from decide_eq_decide.2 HE1.out] at z)
                have H4 : Hid (Hit (sl2 X L H) n (botR (sl2 X L H) n) (fun x y => x < k ∨ (x = k ∧ y < m + 1)) (hw || decide (b1 * (X m - X k) = (H m - L k) * b2))) := hide (by
                  have z := H2.out.more (T := fun x y => x < k ∨ (x = k ∧ y < m + 1)) hkm hmn (by intro a b; omega)
                  rwa [show decide (sl2 X L H k m = botR (sl2 X L H) n) = decide (b1 * (X m - X k) = (H m - L k) * b2) from decide_eq_decide.2 HE2.out] at z)
                clear HE1 HE2
                clear H1 H2 HL3 HL4
                cases lw <;> cases hw
                all_goals
                  go_wp2
                  go_roundw
                  case rel => exact ⟨m + 1, _, _, _, _, _, _, by omega, by omega, by go_num, rfl, rfl, by first | exact H3.out | simpa using H3.out, by first | exact H4.out | simpa using H4.out, HT5.out, HB7.out, FP.out, FQ.out, HG7.out⟩
                  case measure => (simp [intOf]) <;> omega
        · have hmq : decide ((m : Int) < (n : Int)) = false := by simp; omega
          have HG := hide GG
          have T8 := hide (tt.sub (T := fun x _ => x < k + 1) (by intro a b h1 h2 h3; omega))
          have B8 := hide (bb.sub (T := fun x _ => x < k + 1) (by intro a b h1 h2 h3; omega))
          have FP := hide fp
          have FQ := hide fq
          have H3 := hide (h1.sub (T := fun x _ => x < k + 1) (by intro a b h1 h2; omega))
          have H4 := hide (h2.sub (T := fun x _ => x < k + 1) (by intro a b h1 h2; omega))
          clear h1 h2
          clear tt bb GG fp fq
          go_wp2
          go_roundw
          case rel => exact ⟨k + 1, lw, hw, p, q, r, s, by omega, by go_num, rfl, rfl, H3.out, H4.out, T8.out, B8.out, FP.out, FQ.out, HG.out⟩
          case measure => (simp [intOf]) <;> omega
    · have e : k = n := by omega
      subst e
      have hkk : decide ((k : Int) < (k : Int)) = false := by simp
      have e1 : lw = true := h1.2 (by obtain ⟨⟨i, j, x1, x2, x3⟩, _⟩ := top_is (f := sl1 X L H) hn2; exact ⟨i, j, x1, x2, by omega, x3⟩)
      have e2 : hw = true := h2.2 (by obtain ⟨⟨i, j, x1, x2, x3⟩, _⟩ := bot_is (f := sl2 X L H) hn2; exact ⟨i, j, x1, x2, by omega, x3⟩)
      subst e1 e2
      have HL5 := hide (fun W => lless_any b1 b2 a1 a2 W HA.out.2.1.1 HA.out.1.1 HA.out.2.1.2 HA.out.1.2)
      rw [decide_eq_false (show ¬ Rat.divInt b1 b2 < Rat.divInt a1 a2 by rw [HA.out.2.2.2.1, HA.out.2.2.2.2]; exact Rat.not_lt.2 HLE.out)] at HL5
      obtain ⟨a30, a31, _⟩ := GG.ra.cells
      obtain ⟨a40, a41, _⟩ := GG.rb.cells
      have hb := GG.bel
      clear tt bb fp fq GG h1 h2 HA
      go_wp2_with fail
      with_reducible refine (HL5.out _).mono ?_
      rintro e w4 ⟨rfl, hb4⟩
      replace hb := rat_trans hb hb4
      clear hb4 a30 a31 a40 a41
      go_wp2_with fail
      with_reducible refine (CP.out _ hb).mono ?_
      rintro e w5 ⟨rfl, hb5⟩
      replace hb := rat_trans hb hb5
      clear hb5
      go_wp2_with fail
      with_reducible refine (CW.out _).mono ?_
      rintro e w6 ⟨rfl, hb6⟩
      have HB := hide (rat_trans hb hb6)
      clear hb hb6
      go_wp2
      go_ret
      exact ⟨rfl, HB.out⟩
end Go.Proofs.Ytjjhdigbgmbmnaa.Skw
