/- The contracts of layer 52: fractions in lowest terms. -/
import Derived.Test.YtjjhdigbgmbmnaaSkwB
namespace Go.Proofs.Ytjjhdigbgmbmnaa.Skw
open Go.RowKit Aid Fx
theorem gcd_step (x y : Nat) : Nat.gcd y (x % y) = Nat.gcd x y := by rw [Nat.gcd_comm y, ← Nat.gcd_rec, Nat.gcd_comm]
theorem quo_num {n d : Int} (h : 1 ≤ d) : n.tdiv (Nat.gcd n.natAbs d.natAbs : Int) = (Rat.divInt n d).num := by
  rw [num_eq (by omega)]
  exact Int.tdiv_eq_ediv_of_dvd (Int.ofNat_dvd_left.2 (Nat.gcd_dvd_left _ _))
theorem quo_den {n d : Int} (h : 1 ≤ d) : d.tdiv (Nat.gcd n.natAbs d.natAbs : Int) = ((Rat.divInt n d).den : Int) := by
  rw [den_eq (by omega)]
  exact Int.tdiv_eq_ediv_of_dvd (Int.ofNat_dvd_left.2 (Nat.gcd_dvd_right _ _))
theorem low_bd {n d : Int} (h : 1 ≤ d) : 1 ≤ ((Rat.divInt n d).den : Int) ∧ ((Rat.divInt n d).den : Int) ≤ d ∧ -(n.natAbs : Int) ≤ (Rat.divInt n d).num ∧ (Rat.divInt n d).num ≤ n.natAbs := by
  have hg : 0 < Nat.gcd n.natAbs d.natAbs := Nat.gcd_pos_of_pos_right _ (by omega)
  have h1 := (Rat.divInt n d).den_pos
  have e1 := den_eq (n := n) (show 0 < d by omega)
  have e2 := num_eq (n := n) (show 0 < d by omega)
  have b1 : d / (Nat.gcd n.natAbs d.natAbs : Int) ≤ d := Int.ediv_le_self _ (by omega)
  have b2 : (n / (Nat.gcd n.natAbs d.natAbs : Int)).natAbs ≤ n.natAbs := Int.natAbs_ediv_le_natAbs _ _
  rw [← e2] at b2
  refine ⟨by omega, by omega, by omega, by omega⟩

set_option maxRecDepth 100000 in
set_option maxHeartbeats 3200000 in
theorem lowest_any (n d : Int) (w : World) (h1 : 1 ≤ d ∧ d ≤ 1073741824) (h3 : -4611686018427387904 ≤ n ∧ n ≤ 4611686018427387904) :
    Calls Try.prog 29 #[.agg #[.int .i64 n, .int .i64 d]] w fun e w' => e = .returned (.agg #[.int .i64 (Rat.divInt n d).num, .int .i64 (Rat.divInt n d).den]) ∧ Below w.heap.size w w' := by
  obtain ⟨W0, hW0⟩ : ∃ W0, W0 = ((w.alloc (.cells #[.int .i64 n, .int .i64 d] 26)).alloc (.cells #[.int .i64 0, .int .i64 0] 26)) := ⟨_, rfl⟩
  have HH := hide hW0
  have HB : Hid (Below w.heap.size w W0) := hide (by rw [hW0]; exact (((Below.refl _ _).alloc (Nat.le_refl _) _).alloc (by simp) _))
  have k0 : W0.cell? ⟨w.heap.size, 0, none⟩ = some (.int .i64 n) := by rw [hW0]; simp [go_sem]
  have k1 : W0.cell? ⟨w.heap.size, 1, none⟩ = some (.int .i64 d) := by rw [hW0]; simp [go_sem]
  have j0 : W0.cell? ⟨w.heap.size + 1, 0, none⟩ = some (.int .i64 0) := by rw [hW0]; simp [go_sem]
  have j1 : W0.cell? ⟨w.heap.size + 1, 1, none⟩ = some (.int .i64 0) := by rw [hW0]; simp [go_sem]
  have jf : ∀ i, W0.frozen? ⟨w.heap.size + 1, i, none⟩ = false := fun i => by rw [hW0]; simp [go_sem]
  obtain ⟨d1, d2⟩ := h1
  obtain ⟨n1, n2⟩ := h3
  have Q1 := quo_num (n := n) d1
  have Q2 := quo_den (n := n) d1
  have hg : 0 < Nat.gcd n.natAbs d.natAbs := Nat.gcd_pos_of_pos_right _ (by omega)
  obtain ⟨G, hG⟩ : ∃ G, G = Nat.gcd n.natAbs d.natAbs := ⟨_, rfl⟩
  rw [← hG] at Q1 Q2 hg
  have gle : G ≤ d.natAbs := by rw [hG]; exact Nat.gcd_le_right _ (by omega)
  have hneg : wrap64 (-n) = -n := IntWalk.wrap64_in _ (by omega)
  have hmax : max n (-n) = (n.natAbs : Int) := by omega
  have hif : (if n < -n then -n else n) = (n.natAbs : Int) := by split <;> omega
  have HG := hide hG
  have LB := low_bd (n := n) d1
  obtain ⟨rn, hrn⟩ : ∃ rn, rn = (Rat.divInt n d).num := ⟨_, rfl⟩
  obtain ⟨rd, hrd⟩ : ∃ rd : Int, rd = ((Rat.divInt n d).den : Int) := ⟨_, rfl⟩
  rw [← hrn] at Q1 LB
  rw [← hrd] at Q2 LB
  rw [← hrn, ← hrd]
  obtain ⟨l1, l2, l3, l4⟩ := LB
  have v1 : wrap64 rn = rn := IntWalk.wrap64_in _ (by omega)
  have v2 : wrap64 rd = rd := IntWalk.wrap64_in _ (by omega)
  have HQ := hide (And.intro Q1 Q2)
  clear hG hW0 Q1 Q2 hrn hrd
  go_enter Try.func29, Try.ntmps29
  go_upto_region 1 with fail
  rw [← HH.out]
  go_wp2
  go_quiet (fail)
  go_wp2
  go_loopw [3, 4] (fun a b wr => ∃ x y : Nat, a = .int .i64 (x : Int) ∧ b = .int .i64 (y : Int) ∧ Nat.gcd x y = G ∧ x ≤ 4611686018427387904 ∧ y ≤ 1073741824 ∧ ∃ z, wr = W0.drewN z) (fun _ b _ => (intOf b).toNat)
  case atStart => exact ⟨n.natAbs, d.natAbs, rfl, by rw [show ((d.natAbs : Nat) : Int) = d by omega], HG.out.symm, by omega, by omega, by first | exact ⟨0, rfl⟩ | exact ⟨_, rfl⟩⟩
  case round =>
    obtain ⟨x, y, rfl, rfl, hgc, hx, hy, z, rfl⟩ := hrel
    by_cases h0 : y = 0
    · subst h0
      obtain rfl : x = G := by rw [← hgc, Nat.gcd_zero_right]
      have hx0 : ((x : Int) == 0) = false := by simp <;> omega
      have hx1 : ((x : Int) == -1) = false := by simp <;> omega
      have hxn : ¬ x = 0 := by omega
      have u1 : IntKind.i64.wrap rn = rn := IntWalk.i64_in _ (by omega)
      have u2 : IntKind.i64.wrap rd = rd := IntWalk.i64_in _ (by omega)
      obtain ⟨Q1, Q2⟩ := HQ.out
      clear hgc
      go_wp2
      refine wp_region_still_tail 9 (by kernel_rfl) (by kernel_rfl) ?_
      change wpStill _ _ (W0.drewN z).drew _ _ _
      simp only [List.take_succ_cons, List.take_zero, List.drop_succ_cons, List.drop_zero]
      repeat still_step
      refine wpStill_nil ?_
      change wpList _ _ _ _ _ (W0.drewN z).drew
      go_wp2
      refine bodyPost_ret (v := .agg #[.int .i64 rn, .int .i64 rd]) (by simp [results, Try.results29, go_sem, *]; try omega) rfl ?_
      refine ⟨rfl, ?_⟩
      repeat (with_reducible refine Below.setCell ?_ (by first | (dsimp only; omega) | (simp; omega)) _)
      exact (below_drewN HB.out z).drew
    · have hy0 : ((y : Int) == 0) = false := by simp <;> omega
      have hy1 : ((y : Int) == -1) = false := by simp <;> omega
      have hr : ((x : Int).tmod (y : Int)) = ((x % y : Nat) : Int) := (Int.ofNat_tmod x y).symm
      have hlt := Nat.mod_lt x (show y > 0 by omega)
      obtain ⟨r, hrr⟩ : ∃ r, r = x % y := ⟨_, rfl⟩
      rw [← hrr] at hr hlt
      have HGC := hide (show Nat.gcd y r = G by rw [hrr, gcd_step, hgc])
      clear hgc hrr
      go_wp2
      go_quiet (fail)
      go_wp2
      go_roundw
      case rel => exact ⟨y, r, rfl, rfl, HGC.out, by omega, by omega, by first | exact ⟨_, rfl⟩ | exact ⟨_, World.drewN_drewN _ _ _⟩⟩
      case measure => (simp [intOf]) <;> omega
set_option maxRecDepth 100000 in
set_option maxHeartbeats 3200000 in
theorem rat_any (n d : Int) (w : World) (h1 : 1 ≤ d ∧ d ≤ 1073741824) (h3 : -4611686018427387904 ≤ n ∧ n ≤ 4611686018427387904) :
    Calls Try.prog 44 #[.int .i64 n, .int .i64 d] w fun e w' => e = .returned (.agg #[.int .i64 (Rat.divInt n d).num, .int .i64 (Rat.divInt n d).den]) ∧ Below w.heap.size w w' := by
  obtain ⟨W0, hW0⟩ : ∃ W0, W0 = (w.alloc (.cells #[.int .i64 0, .int .i64 0] 26)) := ⟨_, rfl⟩
  have HH := hide hW0
  have HB : Hid (Below w.heap.size w W0) := hide (by rw [hW0]; exact ((Below.refl _ _).alloc (Nat.le_refl _) _))
  have j0 : W0.cell? ⟨w.heap.size, 0, none⟩ = some (.int .i64 0) := by rw [hW0]; simp [go_sem]
  have j1 : W0.cell? ⟨w.heap.size, 1, none⟩ = some (.int .i64 0) := by rw [hW0]; simp [go_sem]
  have jf : ∀ i, W0.frozen? ⟨w.heap.size, i, none⟩ = false := fun i => by rw [hW0]; simp [go_sem]
  obtain ⟨d1, d2⟩ := h1
  obtain ⟨n1, n2⟩ := h3
  have Q1 := quo_num (n := n) d1
  have Q2 := quo_den (n := n) d1
  have hg : 0 < Nat.gcd n.natAbs d.natAbs := Nat.gcd_pos_of_pos_right _ (by omega)
  obtain ⟨G, hG⟩ : ∃ G, G = Nat.gcd n.natAbs d.natAbs := ⟨_, rfl⟩
  rw [← hG] at Q1 Q2 hg
  have gle : G ≤ d.natAbs := by rw [hG]; exact Nat.gcd_le_right _ (by omega)
  have hneg : wrap64 (-n) = -n := IntWalk.wrap64_in _ (by omega)
  have hmax : max n (-n) = (n.natAbs : Int) := by omega
  have hif : (if n < -n then -n else n) = (n.natAbs : Int) := by split <;> omega
  have HG := hide hG
  have LB := low_bd (n := n) d1
  obtain ⟨rn, hrn⟩ : ∃ rn, rn = (Rat.divInt n d).num := ⟨_, rfl⟩
  obtain ⟨rd, hrd⟩ : ∃ rd : Int, rd = ((Rat.divInt n d).den : Int) := ⟨_, rfl⟩
  rw [← hrn] at Q1 LB
  rw [← hrd] at Q2 LB
  rw [← hrn, ← hrd]
  obtain ⟨l1, l2, l3, l4⟩ := LB
  have v1 : wrap64 rn = rn := IntWalk.wrap64_in _ (by omega)
  have v2 : wrap64 rd = rd := IntWalk.wrap64_in _ (by omega)
  have HQ := hide (And.intro Q1 Q2)
  clear hG hW0 Q1 Q2 hrn hrd
  go_enter Try.func44, Try.ntmps44
  go_upto_region 1 with fail
  rw [← HH.out]
  go_wp2

  go_loopw [5, 6] (fun a b wr => ∃ x y : Nat, a = .int .i64 (x : Int) ∧ b = .int .i64 (y : Int) ∧ Nat.gcd x y = G ∧ x ≤ 4611686018427387904 ∧ y ≤ 1073741824 ∧ ∃ z, wr = W0.drewN z) (fun _ b _ => (intOf b).toNat)
  case atStart => exact ⟨n.natAbs, d.natAbs, rfl, by rw [show ((d.natAbs : Nat) : Int) = d by omega], HG.out.symm, by omega, by omega, by first | exact ⟨0, rfl⟩ | exact ⟨_, rfl⟩⟩
  case round =>
    obtain ⟨x, y, rfl, rfl, hgc, hx, hy, z, rfl⟩ := hrel
    by_cases h0 : y = 0
    · subst h0
      obtain rfl : x = G := by rw [← hgc, Nat.gcd_zero_right]
      have hx0 : ((x : Int) == 0) = false := by simp <;> omega
      have hx1 : ((x : Int) == -1) = false := by simp <;> omega
      have hxn : ¬ x = 0 := by omega
      have u1 : IntKind.i64.wrap rn = rn := IntWalk.i64_in _ (by omega)
      have u2 : IntKind.i64.wrap rd = rd := IntWalk.i64_in _ (by omega)
      obtain ⟨Q1, Q2⟩ := HQ.out
      clear hgc
      go_wp2
      refine wp_region_still_tail 7 (by kernel_rfl) (by kernel_rfl) ?_
      change wpStill _ _ (W0.drewN z).drew _ _ _
      simp only [List.take_succ_cons, List.take_zero, List.drop_succ_cons, List.drop_zero]
      repeat still_step
      refine wpStill_nil ?_
      change wpList _ _ _ _ _ (W0.drewN z).drew
      go_wp2
      refine bodyPost_ret (v := .agg #[.int .i64 rn, .int .i64 rd]) (by simp [results, Try.results44, go_sem, *]; try omega) rfl ?_
      refine ⟨rfl, ?_⟩
      repeat (with_reducible refine Below.setCell ?_ (by first | (dsimp only; omega) | (simp; omega)) _)
      exact (below_drewN HB.out z).drew
    · have hy0 : ((y : Int) == 0) = false := by simp <;> omega
      have hy1 : ((y : Int) == -1) = false := by simp <;> omega
      have hr : ((x : Int).tmod (y : Int)) = ((x % y : Nat) : Int) := (Int.ofNat_tmod x y).symm
      have hlt := Nat.mod_lt x (show y > 0 by omega)
      obtain ⟨r, hrr⟩ : ∃ r, r = x % y := ⟨_, rfl⟩
      rw [← hrr] at hr hlt
      have HGC := hide (show Nat.gcd y r = G by rw [hrr, gcd_step, hgc])
      clear hgc hrr
      go_wp2
      go_quiet (fail)
      go_wp2
      go_roundw
      case rel => exact ⟨y, r, rfl, rfl, HGC.out, by omega, by omega, by first | exact ⟨_, rfl⟩ | exact ⟨_, World.drewN_drewN _ _ _⟩⟩
      case measure => (simp [intOf]) <;> omega
end Go.Proofs.Ytjjhdigbgmbmnaa.Skw
