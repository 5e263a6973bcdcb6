/- The walk of the law SkewCorners where its conditions hold. -/
import Derived.Test.YtjjhdigbgmbmnaaSkxN
import Derived.Test.YtjjhdigbgmbmnaaSkxO
namespace Go.Proofs.Ytjjhdigbgmbmnaa.Skw
open Go.RowKit Aid Fx App
theorem row_at {w : World} {base g n c : Nat} {X L H : Nat → Int} (h : w.ownsRow base 43 3 (.slice (some ⟨g, 0, none⟩) n c) n (rowG X L H n)) {i : Nat} (hi : i < n) : (w.cell? ⟨g, i * 3, none⟩ = some (.int .i64 (X i)) ∧ w.cell? ⟨g, i * 3 + 1, none⟩ = some (.int .i64 (L i)) ∧ w.cell? ⟨g, i * 3 + 2, none⟩ = some (.int .i64 (H i))) ∧ base ≤ g ∧ g < w.heap.size ∧ ∀ o, w.frozen? ⟨g, o, none⟩ = false := by
  rcases h.2 with ⟨h, _⟩ | ⟨g', cap, cur, hv, hb, hg, hn, hm, hs, ht⟩
  · cases h
  · cases hv
    obtain ⟨g1, g2, g3⟩ := rowG_get X L H n i hi
    have key : ∀ j, j < n * 3 → w.cell? ⟨g, j, none⟩ = (rowG X L H n)[j]? := fun j hj => by
      refine (cell_of_row w g j _ _ _ hg).trans ?_
      rw [← Array.getElem?_toList, ← List.getElem?_take_of_lt hj, ht]
    exact ⟨⟨(key _ (by omega)).trans g1, (key _ (by omega)).trans g2, (key _ (by omega)).trans g3⟩, hb, (Array.getElem?_eq_some_iff.1 hg).1, fun o => by simp [World.frozen?, hg]⟩
set_option maxRecDepth 100000 in
set_option maxHeartbeats 25600000 in
theorem SkewCorners_main (a : Option Addr) (n cap : Nat) (X L H : Nat → Int) (w : World) (hr : GatesAt w a n X L H) (hcap : n ≤ cap) (h24 : n ≤ 24) (ok : GOk X L H n) :
    Calls Try.prog 8 #[.slice a n cap] w fun e w' => e = .returned (.bool true) ∧ Below w.heap.size w w' := by
  have hc := ok_chk ok
  have HGT := hide (fun W (h : Below w.heap.size w W) => hr.below h)
  have CF := hide (fun W => few_any a n cap W)
  rw [decide_eq_true h24] at CF
  have CC := hide (fun W (h : Below w.heap.size w W) => Check_any a n cap X L H W (HGT.out W h))
  rw [hc] at CC
  have C1 := hide (fun W (h : Below w.heap.size w W) => Lower_any a n cap X L H W (HGT.out W h) hcap)
  have C2 := hide (fun W (h : Below w.heap.size w W) => Upper_any a n cap X L H W (HGT.out W h) hcap)
  obtain ⟨P, m, rp, hp⟩ := lowS_rise ok
  obtain ⟨Q, q, rq, hq⟩ := uppS_rise ok
  have SM := hide (corners_same ok hp hq)
  have HR1 := hide rp
  have HR2 := hide rq
  have hm24 : m ≤ n := rp.le
  have hq24 : q ≤ n := rq.le
  clear hp hq rp rq
  have CS : Hid (∀ W, Below w.heap.size w W → Calls Try.prog 12 #[.slice a n cap] W fun e w' => e = .returned (.tuple #[.agg #[.int .i64 (slA X L H n).1, .int .i64 (slA X L H n).2], .agg #[.int .i64 (slB X L H n).1, .int .i64 (slB X L H n).2], .int .i64 (slE X L H n)]) ∧ Below W.heap.size W w') := hide fun W h => Slopes_any a n cap X L H W (HGT.out W h) hcap
  have CT : Hid (∀ (W : World) (base g c : Nat), W.ownsRow base 43 3 (.slice (some ⟨g, 0, none⟩) n c) n (rowG X (only Q (-1073741824) L q) (only P 1073741824 H m) n) → Calls Try.prog 12 #[.slice (some ⟨g, 0, none⟩) n c] W fun e w' => e = .returned (.tuple #[.agg #[.int .i64 (slA X L H n).1, .int .i64 (slA X L H n).2], .agg #[.int .i64 (slB X L H n).1, .int .i64 (slB X L H n).2], .int .i64 (slE X L H n)]) ∧ Below W.heap.size W w') := hide fun W base g c own => by
    obtain ⟨p', c', e, hg, hc⟩ := row_gates own (by omega)
    cases e
    have t := Slopes_any _ n _ X _ _ W hg hc
    rw [SM.out.1, SM.out.2.1, SM.out.2.2] at t
    exact t
  clear SM
  generalize slA X L H n = A at CS CT
  generalize slB X L H n = B at CS CT
  generalize slE X L H n = E at CS CT
  have CW := hide awake_any
  have HO := hide ok
  have hn1 := ok.n1
  obtain ⟨b, off, rfl, hlt, hc0⟩ := hr.at_ (by omega)
  have HGC := hide hc0
  have HS : Hid (∀ W, Below w.heap.size w W → ∀ i, i < n → W.cell? ⟨b, off + i * 3, none⟩ = some (.int .i64 (X i)) ∧ W.cell? ⟨b, off + i * 3 + 1, none⟩ = some (.int .i64 (L i)) ∧ W.cell? ⟨b, off + i * 3 + 2, none⟩ = some (.int .i64 (H i))) :=
    hide fun W h i hi => ⟨(h.cell (p := ⟨b, _, none⟩) hlt).trans (HGC.out i hi).1, (h.cell (p := ⟨b, _, none⟩) hlt).trans (HGC.out i hi).2.1, (h.cell (p := ⟨b, _, none⟩) hlt).trans (HGC.out i hi).2.2⟩
  clear hr hc ok hc0 HGC HGT
  obtain ⟨i0, hi0, hz0, hz1, hz2⟩ := info_parts info_gate
  have HI0 := hide hi0
  have HZ0 := hide hz0
  have HZ1 := hide hz1
  have HZ2 := hide hz2
  clear hi0 hz0 hz1 hz2
  go_enter Try.func8, Try.ntmps8
  go_wp2_with fail
  with_reducible refine (CF.out _).mono ?_
  rintro e w1 ⟨rfl, hb⟩
  clear CF
  go_wp2_with fail
  with_reducible refine (CC.out _ hb).mono ?_
  rintro e w2 ⟨rfl, hbn⟩
  replace hb := rat_trans hb hbn
  clear CC hbn
  go_wp2_with fail
  with_reducible refine (C1.out _ hb).mono ?_
  rintro e w3 ⟨v1, rfl, own1, hbn⟩
  replace hb := rat_trans hb hbn
  clear C1 hbn
  go_wp2_with fail
  with_reducible refine (C2.out _ hb).mono ?_
  rintro e w4 ⟨v2, rfl, own2, hbn⟩
  replace hb := rat_trans hb hbn
  replace own1 := row_step own1 hbn
  clear C2 hbn
  obtain ⟨g1, c1, rfl, hg1, PL⟩ := row_ints own1 HR1.out
  obtain ⟨g2, c2, rfl, hg2, QL⟩ := row_ints own2 HR2.out
  have HL1 : Hid (∀ W, Below w4.heap.size w4 W → ∀ i, i < m → W.cell? ⟨g1, i, none⟩ = some (.int .i64 (P i : Int))) := hide fun W h i hi => (h.cell (p := ⟨g1, i, none⟩) hg1).trans (PL i hi)
  have HL2 : Hid (∀ W, Below w4.heap.size w4 W → ∀ i, i < q → W.cell? ⟨g2, i, none⟩ = some (.int .i64 (Q i : Int))) := hide fun W h i hi => (h.cell (p := ⟨g2, i, none⟩) hg2).trans (QL i hi)
  have HG1 := hide hg1
  have HG2 := hide hg2
  clear own1 own2 PL QL hg1 hg2
  go_upto_region 4 with fail
  go_upto_region 5 with (at_builtin; refine App.wpList_app _ rfl _ _ 22 rfl w4.heap.size 43 i0 _ 3 24 Try.underlying22 HI0.out HZ0.out HZ1.out HZ2.out rfl (by decide) _ 0 [] rfl (own_nilG rfl (Nat.le_refl _)) _ n _ (rowG X L H n) rfl (gates_src0 (HS.out _ (rat_up hb _)) (Nat.le_refl _)) (rowG_one _ _ _ _) (by unfold maxLen; omega) (by omega) (by simp) ?_; intro v5 w5 own5 g5 d5)
  rw [Nat.zero_add, List.nil_append] at own5
  have HB4 := hide hb
  have hb5 : Below w4.heap.size w4 w5 := app_low (a := w4) (rat_up (Below.refl _ _) _) g5 (own_nilG rfl (Nat.le_refl _))
  obtain ⟨g, c, hv5⟩ : ∃ g c, v5 = .slice (some ⟨g, 0, none⟩) n c := by
    rcases own5.2 with ⟨_, h⟩ | ⟨g, c, cur, h, _⟩
    · omega
    · exact ⟨g, c, h⟩
  subst hv5
  have HO5 := hide own5
  have HB5 := hide hb5
  clear hb own5 hb5 g5 d5
  go_wp2
  go_loopw [6] (fun i wr => ∃ k : Nat, k ≤ n ∧ i = .int .i64 k ∧ wr.ownsRow w4.heap.size 43 3 (.slice (some ⟨g, 0, none⟩) n c) n (rowG X (wide k (-1073741824) L) (wide k 1073741824 H) n) ∧ Below w4.heap.size w4 wr) (fun i _ => n - (intOf i).toNat)
  case atStart => exact ⟨0, Nat.zero_le _, rfl, by rw [wide_none, wide_none]; exact HO5.out, HB5.out⟩
  case round =>
    clear HO5 HB5
    obtain ⟨k, hk, rfl, own, hb⟩ := hrel
    by_cases hkn : k < n
    · have hkq : (k : Int) < (n : Int) := by omega
      obtain ⟨⟨r0, r1, r2⟩, hbg, hgl, hfr⟩ := row_at own hkn
      have o1 := row_store own (.int .i64 1073741824) (p := k * 3 + 2) (by omega)
      rw [rowG_hi _ _ _ _ _ _ hkn, wide_step] at o1
      have o2 := row_store o1 (.int .i64 (-1073741824)) (p := k * 3 + 1) (by omega)
      rw [rowG_lo _ _ _ _ _ _ hkn, wide_step] at o2
      have HO2 := hide o2
      have HB2 := hide ((hb.setCell (p := ⟨g, k * 3 + 2, none⟩) hbg (.int .i64 1073741824)).setCell (p := ⟨g, k * 3 + 1, none⟩) hbg (.int .i64 (-1073741824)))
      clear own o1 o2 hb
      go_wp2
      go_roundw
      case rel => exact ⟨k + 1, by omega, by go_num, HO2.out, HB2.out⟩
      case measure => (simp [intOf]) <;> omega
    · have e : n = k := by omega
      subst e
      have hkk : decide ((n : Int) < (n : Int)) = false := by simp
      have HO2 : Hid (wr.ownsRow w4.heap.size 43 3 (.slice (some ⟨g, 0, none⟩) n c) n (rowG X (only Q (-1073741824) L 0) (only P 1073741824 H 0) n)) := hide (by rw [← row_first]; exact own)
      have HB2 := hide hb
      clear own hb
      go_wp2
      go_loopw [7] (fun i wr => ∃ k : Nat, k ≤ m ∧ i = .int .i64 k ∧ wr.ownsRow w4.heap.size 43 3 (.slice (some ⟨g, 0, none⟩) n c) n (rowG X (only Q (-1073741824) L 0) (only P 1073741824 H k) n) ∧ Below w4.heap.size w4 wr) (fun i _ => m - (intOf i).toNat)
      case atStart => exact ⟨0, Nat.zero_le _, rfl, HO2.out, HB2.out⟩
      case round =>
        clear HO2 HB2
        obtain ⟨k, hk, rfl, own, hb⟩ := hrel
        by_cases hkm : k < m
        · have hkq : (k : Int) < (m : Int) := by omega
          have hlP := HR1.out.lt k hkm
          obtain ⟨⟨r0, r1, r2⟩, hbg, hgl, hfr⟩ := row_at own hlP
          have o1 := row_store own (.int .i64 (H (P k))) (p := P k * 3 + 2) (by omega)
          rw [rowG_hi _ _ _ _ _ _ hlP, only_step] at o1
          have b1 : ∀ N, Below w4.heap.size w4 ((wr.drewN N).setCell ⟨g, P k * 3 + 2, none⟩ (.int .i64 (H (P k)))) := fun N => (below_drewN hb N).setCell hbg _
          have l0 := HL1.out wr hb k hkm
          have lp : 0 < k → wr.cell? ⟨g1, k - 1, none⟩ = some (.int .i64 (P (k - 1) : Int)) := fun _ => HL1.out wr hb (k - 1) (by omega)
          have li : 0 < k → P (k - 1) < P k := fun h => HR1.out.inc k h hkm
          have s2 := (HS.out wr (rat_trans HB4.out hb) (P k) hlP).2.2
          have hlb : b < wr.heap.size := Nat.lt_of_lt_of_le hlt (rat_trans HB4.out hb).size
          have hl1 : g1 < wr.heap.size := Nat.lt_of_lt_of_le HG1.out hb.size
          generalize hx : P k = x at r0 r1 r2 l0 s2 hlP li o1 b1
          generalize hy : H x = y at s2 o1 b1
          have HO1 := hide o1
          have HB1 := hide b1
          clear own hb o1 b1 hx hy
          have x1 : (x : Int) < (n : Int) := by omega
          have x2 : decide ((x : Int) < 0) = false := by simp
          have x3 : decide ((n : Int) ≤ (x : Int)) = false := by simp; omega
          have x3n : decide (n ≤ x) = false := by simp; omega
          clear hlP
          by_cases hk0 : k = 0
          · have hk0q : decide (0 < (k : Int)) = false := by simp; omega
            have hk0n : decide (0 < k) = false := by simp; omega
            clear hk0 lp li
            go_wp2
            go_quiet (fail)
            go_wp2
            refine wp_region_still_tail 15 (by kernel_rfl) (by kernel_rfl) ?_
            change wpStill _ _ (wr.drewN nq).drew _ _ _
            simp only [List.take_succ_cons, List.take_zero, List.drop_succ_cons, List.drop_zero]
            repeat still_step
            refine wpStill_nil ?_
            change wpList _ _ _ _ _ (wr.drewN nq).drew
            go_wp2
            go_roundw
            case rel => exact ⟨k + 1, by omega, by go_num, HO1.out, HB1.out _⟩
            case measure => (simp [intOf]) <;> omega
          · have hkp : 0 < k := by omega
            have hkpq : 0 < (k : Int) := by omega
            have p0 := lp hkp
            have pi := li hkp
            generalize P (k - 1) = z at p0 pi
            have x4 : decide ((x : Int) ≤ (z : Int)) = false := by simp; omega
            have x4n : decide (x ≤ z) = false := by simp; omega
            clear hk0 lp li pi
            go_wp2
            go_quiet (fail)
            go_wp2
            refine wp_region_still_tail 15 (by kernel_rfl) (by kernel_rfl) ?_
            change wpStill _ _ (wr.drewN nq).drew _ _ _
            simp only [List.take_succ_cons, List.take_zero, List.drop_succ_cons, List.drop_zero]
            repeat still_step
            refine wpStill_nil ?_
            change wpList _ _ _ _ _ (wr.drewN nq).drew
            go_wp2
            go_roundw
            case rel => exact ⟨k + 1, by omega, by go_num, HO1.out, HB1.out _⟩
            case measure => (simp [intOf]) <;> omega
        · have e : m = k := by omega
          subst e
          have hkk : decide ((m : Int) < (m : Int)) = false := by simp
          have HO2 := hide own
          have HB2 := hide hb
          clear own hb
          go_wp2
          go_loopw [8] (fun i wr => ∃ k : Nat, k ≤ q ∧ i = .int .i64 k ∧ wr.ownsRow w4.heap.size 43 3 (.slice (some ⟨g, 0, none⟩) n c) n (rowG X (only Q (-1073741824) L k) (only P 1073741824 H m) n) ∧ Below w4.heap.size w4 wr) (fun i _ => q - (intOf i).toNat)
          case atStart => exact ⟨0, Nat.zero_le _, rfl, HO2.out, HB2.out⟩
          case round =>
            clear HO2 HB2
            obtain ⟨k, hk, rfl, own, hb⟩ := hrel
            by_cases hkm : k < q
            · have hkq : (k : Int) < (q : Int) := by omega
              have hlP := HR2.out.lt k hkm
              obtain ⟨⟨r0, r1, r2⟩, hbg, hgl, hfr⟩ := row_at own hlP
              have o1 := row_store own (.int .i64 (L (Q k))) (p := Q k * 3 + 1) (by omega)
              rw [rowG_lo _ _ _ _ _ _ hlP, only_step] at o1
              have b1 : ∀ N, Below w4.heap.size w4 ((wr.drewN N).setCell ⟨g, Q k * 3 + 1, none⟩ (.int .i64 (L (Q k)))) := fun N => (below_drewN hb N).setCell hbg _
              have l0 := HL2.out wr hb k hkm
              have lp : 0 < k → wr.cell? ⟨g2, k - 1, none⟩ = some (.int .i64 (Q (k - 1) : Int)) := fun _ => HL2.out wr hb (k - 1) (by omega)
              have li : 0 < k → Q (k - 1) < Q k := fun h => HR2.out.inc k h hkm
              have s2 := (HS.out wr (rat_trans HB4.out hb) (Q k) hlP).2.1
              have hlb : b < wr.heap.size := Nat.lt_of_lt_of_le hlt (rat_trans HB4.out hb).size
              have hl1 : g2 < wr.heap.size := Nat.lt_of_lt_of_le HG2.out hb.size
              generalize hx : Q k = x at r0 r1 r2 l0 s2 hlP li o1 b1
              generalize hy : L x = y at s2 o1 b1
              have HO1 := hide o1
              have HB1 := hide b1
              clear own hb o1 b1 hx hy
              have x1 : (x : Int) < (n : Int) := by omega
              have x2 : decide ((x : Int) < 0) = false := by simp
              have x3 : decide ((n : Int) ≤ (x : Int)) = false := by simp; omega
              have x3n : decide (n ≤ x) = false := by simp; omega
              clear hlP
              by_cases hk0 : k = 0
              · have hk0q : decide (0 < (k : Int)) = false := by simp; omega
                have hk0n : decide (0 < k) = false := by simp; omega
                clear hk0 lp li
                go_wp2
                go_quiet (fail)
                go_wp2
                refine wp_region_still_tail 15 (by kernel_rfl) (by kernel_rfl) ?_
                change wpStill _ _ (wr.drewN nq).drew _ _ _
                simp only [List.take_succ_cons, List.take_zero, List.drop_succ_cons, List.drop_zero]
                repeat still_step
                refine wpStill_nil ?_
                change wpList _ _ _ _ _ (wr.drewN nq).drew
                go_wp2
                go_roundw
                case rel => exact ⟨k + 1, by omega, by go_num, HO1.out, HB1.out _⟩
                case measure => (simp [intOf]) <;> omega
              · have hkp : 0 < k := by omega
                have hkpq : 0 < (k : Int) := by omega
                have p0 := lp hkp
                have pi := li hkp
                generalize Q (k - 1) = z at p0 pi
                have x4 : decide ((x : Int) ≤ (z : Int)) = false := by simp; omega
                have x4n : decide (x ≤ z) = false := by simp; omega
                clear hk0 lp li pi
                go_wp2
                go_quiet (fail)
                go_wp2
                refine wp_region_still_tail 15 (by kernel_rfl) (by kernel_rfl) ?_
                change wpStill _ _ (wr.drewN nq).drew _ _ _
                simp only [List.take_succ_cons, List.take_zero, List.drop_succ_cons, List.drop_zero]
                repeat still_step
                refine wpStill_nil ?_
                change wpList _ _ _ _ _ (wr.drewN nq).drew
                go_wp2
                go_roundw
                case rel => exact ⟨k + 1, by omega, by go_num, HO1.out, HB1.out _⟩
                case measure => (simp [intOf]) <;> omega
            · have e : q = k := by omega
              subst e
              have hkk : decide ((q : Int) < (q : Int)) = false := by simp
              have HO2 := hide own
              have HB2 := hide hb
              clear own hb
              have y0 : wr.cell? ⟨g1, 0, none⟩ = some (.int .i64 0) := by
                have t := HL1.out wr HB2.out 0 HR1.out.pos
                rw [HR1.out.first] at t
                exact t
              have y1 : wr.cell? ⟨g1, m - 1, none⟩ = some (.int .i64 ((n : Int) - 1)) := by
                have t := HL1.out wr HB2.out (m - 1) (by have := HR1.out.pos; omega)
                rw [HR1.out.last, show ((n - 1 : Nat) : Int) = (n : Int) - 1 by omega] at t
                exact t
              have y2 := HR1.out.pos
              have y3 : ((m : Int) == 0) = false := by simp; omega
              have y4 : ¬ m = 0 := by omega
              have z0 : wr.cell? ⟨g2, 0, none⟩ = some (.int .i64 0) := by
                have t := HL2.out wr HB2.out 0 HR2.out.pos
                rw [HR2.out.first] at t
                exact t
              have z1 : wr.cell? ⟨g2, q - 1, none⟩ = some (.int .i64 ((n : Int) - 1)) := by
                have t := HL2.out wr HB2.out (q - 1) (by have := HR2.out.pos; omega)
                rw [HR2.out.last, show ((n - 1 : Nat) : Int) = (n : Int) - 1 by omega] at t
                exact t
              have z2 := HR2.out.pos
              have z3 : ((q : Int) == 0) = false := by simp; omega
              have z4 : ¬ q = 0 := by omega
              have hl1 : g1 < wr.heap.size := Nat.lt_of_lt_of_le HG1.out HB2.out.size
              have hl2 : g2 < wr.heap.size := Nat.lt_of_lt_of_le HG2.out HB2.out.size
              have hn64 : (n : Int) ≤ 24 := by omega
              have HBB := hide (rat_trans HB4.out HB2.out)
              have HOW := HO2
              go_wp2_with fail
              clear y0 y1 y2 y3 y4 z0 z1 z2 z3 z4 hl1 hl2 HO2 HB2 HL1 HL2 HR1 HR2 HB4 HS
              with_reducible refine (CS.out _ HBB.out).mono ?_
              rintro e w8 ⟨rfl, hbn⟩
              replace HBB := hide (rat_trans HBB.out hbn)
              replace HOW := hide (row_step HOW.out hbn)
              clear hbn CS
              go_upto_region 25 with fail
              have hup := ((Below.refl w8.heap.size w8).alloc (Nat.le_refl _) (.cells #[.int .i64 A.1, .int .i64 A.2] 26)).alloc (by simp) (.cells #[.int .i64 B.1, .int .i64 B.2] 26)
              have Eg8 := (RatAt.newv (n := A.1) (d := A.2) (W := w8) rfl).alloc (.cells #[.int .i64 B.1, .int .i64 B.2] 26)
              have Fg8 : RatAt ((w8.alloc (.cells #[.int .i64 A.1, .int .i64 A.2] 26)).alloc (.cells #[.int .i64 B.1, .int .i64 B.2] 26)) (w8.heap.size + 1) B.1 B.2 := RatAt.newv1 rfl
              replace HBB := hide (rat_trans HBB.out hup)
              replace HOW := hide (row_step HOW.out hup)
              clear hup
              generalize hW : ((w8.alloc (.cells #[.int .i64 A.1, .int .i64 A.2] 26)).alloc (.cells #[.int .i64 B.1, .int .i64 B.2] 26)) = W8 at Eg8 Fg8  HBB HOW ⊢
              clear hW
              generalize w8.heap.size = G8 at Eg8 Fg8 ⊢
              go_wp2_with fail
              with_reducible refine (CT.out _ _ _ _ HOW.out).mono ?_
              rintro e w9 ⟨rfl, hbn⟩
              replace HBB := hide (rat_trans HBB.out hbn)
              replace Eg8 := Eg8.step hbn
              replace Fg8 := Fg8.step hbn
              clear hbn CT HOW
              go_upto_region 26 with fail
              have hup := ((Below.refl w9.heap.size w9).alloc (Nat.le_refl _) (.cells #[.int .i64 A.1, .int .i64 A.2] 26)).alloc (by simp) (.cells #[.int .i64 B.1, .int .i64 B.2] 26)
              have Eg9 := (RatAt.newv (n := A.1) (d := A.2) (W := w9) rfl).alloc (.cells #[.int .i64 B.1, .int .i64 B.2] 26)
              have Fg9 : RatAt ((w9.alloc (.cells #[.int .i64 A.1, .int .i64 A.2] 26)).alloc (.cells #[.int .i64 B.1, .int .i64 B.2] 26)) (w9.heap.size + 1) B.1 B.2 := RatAt.newv1 rfl
              replace HBB := hide (rat_trans HBB.out hup)
              replace Eg8 := Eg8.step hup
              replace Fg8 := Fg8.step hup
              clear hup
              generalize hW : ((w9.alloc (.cells #[.int .i64 A.1, .int .i64 A.2] 26)).alloc (.cells #[.int .i64 B.1, .int .i64 B.2] 26)) = W9 at Eg9 Fg9 Eg8 Fg8 HBB ⊢
              clear hW
              generalize w9.heap.size = G9 at Eg9 Fg9 ⊢
              obtain ⟨a0, a1, _⟩ := Eg8.cells
              obtain ⟨a2, a3, _⟩ := Fg8.cells
              obtain ⟨b0, b1, _⟩ := Eg9.cells
              obtain ⟨b2, b3, _⟩ := Fg9.cells
              clear Eg8 Fg8 Eg9 Fg9
              go_wp2_with fail
              with_reducible refine (CW.out _).mono ?_
              rintro e w10 ⟨rfl, hbn⟩
              have HBF := hide (rat_trans HBB.out hbn)
              clear hbn a0 a1 a2 a3 b0 b1 b2 b3 CW HBB
              go_wp2
              go_ret
              exact ⟨rfl, HBF.out⟩
end Go.Proofs.Ytjjhdigbgmbmnaa.Skw
