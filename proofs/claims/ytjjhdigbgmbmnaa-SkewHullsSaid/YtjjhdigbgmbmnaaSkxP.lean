/- The contracts of the reference's corner, Lower and Upper. -/
import Derived.Test.YtjjhdigbgmbmnaaSkxQ
import Derived.Test.YtjjhdigbgmbmnaaSkxI
import Derived.Test.YtjjhdigbgmbmnaaSkxK
namespace Go.Proofs.Ytjjhdigbgmbmnaa.Skw
open Go.RowKit Aid Fx App
theorem crnB_iff {X H : Nat → Int} {n k : Nat} : crnB X H n k = true ↔ crn X H n k := by unfold crnB; simp
set_option maxRecDepth 100000 in
set_option maxHeartbeats 6400000 in
theorem corner_any (a : Option Addr) (n cap : Nat) (X L H : Nat → Int) (k : Nat) (w : World) (hr : GatesAt w a n X L H) (ok : GOk X L H n) (hk : k < n) :
    Calls Try.prog 35 #[.slice a n cap, .int .i64 k] w fun e w' => e = .returned (.bool (crnB X H n k)) ∧ Below w.heap.size w w' := by
  obtain ⟨b, off, rfl, hlt, hc0⟩ := hr.at_ (by omega)
  have HGC := hide hc0
  have HO := hide ok
  have hn24 := ok.n2
  obtain ⟨R, hR⟩ : ∃ R, R = crnB X H n k := ⟨_, rfl⟩
  rw [← hR]
  have HR : Hid (R = true ↔ crn X H n k) := hide (by rw [hR]; exact crnB_iff)
  clear hR hr hc0 ok
  have hkn : (k : Int) < (n : Int) := by omega
  go_enter Try.func35, Try.ntmps35
  go_wp2
  go_loopw [5] (fun u wr => ∃ i : Nat, i ≤ k ∧ u = .int .i64 i ∧ (∀ i', i' < i → ∀ j, k < j → j < n → (H k - H i') * (X j - X i') < (H j - H i') * (X k - X i')) ∧ ∃ z, wr = w.drewN z) (fun u _ => k - (intOf u).toNat)
  case atStart => exact ⟨0, Nat.zero_le _, rfl, fun i h => absurd h (by omega), 0, rfl⟩
  case round =>
    obtain ⟨i, hi, rfl, hg, z, rfl⟩ := hrel
    by_cases hik : i < k
    · have hikq : (i : Int) < (k : Int) := by omega
      have HGD := hide hg
      clear hg
      have vk : IntKind.i64.wrap ((k : Int) + 1) = ((k + 1 : Nat) : Int) := by rw [show ((k + 1 : Nat) : Int) = (k : Int) + 1 by omega]; exact IntWalk.i64_in _ (by omega)
      go_wp2
      go_loopw [6] (fun u wr => ∃ j : Nat, k < j ∧ j ≤ n ∧ u = .int .i64 j ∧ (∀ j', k < j' → j' < j → (H k - H i) * (X j' - X i) < (H j' - H i) * (X k - X i)) ∧ ∃ z, wr = w.drewN z) (fun u _ => n - (intOf u).toNat)
      case atStart => exact ⟨k + 1, by omega, by omega, by first | rfl | go_num, fun j h1 h2 => absurd h2 (by omega), _, rfl⟩
      case round =>
        clear vk
        obtain ⟨j, hkj, hj, rfl, hg, z, rfl⟩ := hrel
        by_cases hjn : j < n
        · have hjq : (j : Int) < (n : Int) := by omega
          have hin : (i : Int) < (n : Int) := by omega
          have HG2 := hide hg
          clear hg
          have HC := hide (And.intro (HGC.out k (by omega)) (And.intro (HGC.out i (by omega)) (HGC.out j (by omega))))
          obtain ⟨c5, -, c0⟩ := HC.out.1
          obtain ⟨c3, -, c1⟩ := HC.out.2.1
          obtain ⟨c2, -, c4⟩ := HC.out.2.2
          obtain ⟨x1, x2, x3, x4, x5, x6⟩ := HO.out.r k (by omega)
          obtain ⟨y1, y2, y3, y4, y5, y6⟩ := HO.out.r i (by omega)
          obtain ⟨z1, z2, z3, z4, z5, z6⟩ := HO.out.r j (by omega)
          have m1 := mul_bd2 (a := X j - X i) (b := H k - H i) (by omega) (by omega) (by omega) (by omega)
          have m2 := mul_bd2 (a := X k - X i) (b := H j - H i) (by omega) (by omega) (by omega) (by omega)
          rw [Int.mul_comm] at m1 m2
          have v1 : IntKind.i64.wrap (H k - H i) = H k - H i := IntWalk.i64_in _ (by omega)
          have v2 : IntKind.i64.wrap (X j - X i) = X j - X i := IntWalk.i64_in _ (by omega)
          have v3 : IntKind.i64.wrap (H j - H i) = H j - H i := IntWalk.i64_in _ (by omega)
          have v4 : IntKind.i64.wrap (X k - X i) = X k - X i := IntWalk.i64_in _ (by omega)
          have v5 : IntKind.i64.wrap ((H k - H i) * (X j - X i)) = (H k - H i) * (X j - X i) := IntWalk.i64_in _ (by omega)
          have v6 : IntKind.i64.wrap ((H j - H i) * (X k - X i)) = (H j - H i) * (X k - X i) := IntWalk.i64_in _ (by omega)
          clear x1 x2 x3 x4 x5 x6 y1 y2 y3 y4 y5 y6 z1 z2 z3 z4 z5 z6 m1 m2 HC
          by_cases hbad : (H j - H i) * (X k - X i) ≤ (H k - H i) * (X j - X i)
          · have hRf : R = false := by
              cases hR : R
              · rfl
              · exact absurd (HR.out.1 hR i hik j hkj hjn) (by omega)
            subst hRf
            go_upto_region 7 with fail
            go_quiet (fail)
            go_wp2
            go_ret
            exact ⟨rfl, by repeat (first | exact Below.refl _ _ | with_reducible refine below_drewN ?_ _)⟩
          · have hb2 : decide ((H j - H i) * (X k - X i) ≤ (H k - H i) * (X j - X i)) = false := decide_eq_false hbad
            have HB := hide hbad
            clear hbad
            go_upto_region 7 with fail
            go_quiet (fail)
            go_wp2
            go_roundw
            case rel => exact ⟨j + 1, by omega, by omega, by go_num, fun j' h1 h2 => by
              rcases Nat.lt_or_ge j' j with h | h
              · exact HG2.out j' h1 h
              · obtain rfl : j' = j := by omega
                have := HB.out; omega, _, rfl⟩
            case measure => (simp [intOf]) <;> omega
        · have hjq : decide ((j : Int) < (n : Int)) = false := by simp; omega
          have HG3 : Hid (∀ i', i' < i + 1 → ∀ j, k < j → j < n → (H k - H i') * (X j - X i') < (H j - H i') * (X k - X i')) := hide fun i' h j' h1 h2 => by
            rcases Nat.lt_or_ge i' i with q | q
            · exact HGD.out i' q j' h1 h2
            · obtain rfl : i' = i := by omega
              exact hg j' h1 (by omega)
          clear hg HGD
          go_wp2
          go_roundw
          case rel => exact ⟨i + 1, by omega, by go_num, HG3.out, _, rfl⟩
          case measure => (simp [intOf]) <;> omega
    · have hikq : decide ((i : Int) < (k : Int)) = false := by simp; omega
      have hRt : R = true := HR.out.2 fun i' h => hg i' (by omega)
      subst hRt
      clear hg
      go_wp2
      go_ret
      exact ⟨rfl, by repeat (first | exact Below.refl _ _ | with_reducible refine below_drewN ?_ _)⟩
theorem filt_succ (p : Nat → Bool) (k : Nat) : (List.range (k + 1)).filter p = if p k then (List.range k).filter p ++ [k] else (List.range k).filter p := by
  rw [List.range_succ, List.filter_append]
  by_cases h : p k = true
  · rw [if_pos h]; simp [h]
  · rw [if_neg h]; simp [h]
theorem filt_len (p : Nat → Bool) (k : Nat) : ((List.range k).filter p).length ≤ k := by
  have := List.length_filter_le p (List.range k)
  rw [List.length_range] at this
  exact this
theorem ints_snoc (l : List Nat) (k : Nat) : ints l ++ [.int .i64 (k : Int)] = ints (l ++ [k]) := by unfold ints; simp
set_option maxRecDepth 100000 in
set_option maxHeartbeats 6400000 in
theorem RLower_any (a : Option Addr) (n cap : Nat) (X L H : Nat → Int) (w : World) (hr : GatesAt w a n X L H) :
    Calls Try.prog 20 #[.slice a n cap] w fun e w' => ∃ v, e = .returned v ∧ w'.ownsRow w.heap.size 3 1 v (rlowS X L H n).length (ints (rlowS X L H n)) ∧ Below w.heap.size w w' := by
  have hn63 := hr.1
  have CC := hide (fun W (h : Below w.heap.size w W) => RCheck_any a n cap X L H W (hr.below h))
  by_cases hc : chkG X L H n = 0
  · rw [hc] at CC
    have HO := hide (chk_ok hc)
    have hn1 := HO.out.n2
    have CR := hide (fun W (h : Below w.heap.size w W) k (hk : k < n) => corner_any a n cap X L H k W (hr.below h) HO.out hk)
    have hS : rlowS X L H n = (List.range n).filter (crnB X H n) := by unfold rlowS; rw [if_pos hc]
    rw [hS]
    clear hS hr
    obtain ⟨i0, hi0, hz0, hz1, hz2⟩ := info_parts info_int
    have HI0 := hide hi0
    have HZ0 := hide hz0
    have HZ1 := hide hz1
    have HZ2 := hide hz2
    clear hi0 hz0 hz1 hz2
    generalize hpp : crnB X H n = p at CR ⊢
    clear hpp
    go_enter Try.func20, Try.ntmps20
    go_wp2_with fail
    with_reducible refine (CC.out _ (Below.refl _ _)).mono ?_
    rintro e w1 ⟨rfl, hb⟩
    have HB1 := hide hb
    clear hb CC
    go_wp2
    go_loopw [3, 4] (fun v i wr => ∃ k : Nat, k ≤ n ∧ i = .int .i64 k ∧ wr.ownsRow w.heap.size 3 1 v ((List.range k).filter p).length (ints ((List.range k).filter p)) ∧ Below w.heap.size w wr) (fun _ i _ => n - (intOf i).toNat)
    case atStart => exact ⟨0, Nat.zero_le _, rfl, World.ownsRow_nil _ _ _ _, HB1.out⟩
    case round =>
      clear HB1
      obtain ⟨k, hk, rfl, own, hb⟩ := hrel
      by_cases hkn : k < n
      · have hkq : (k : Int) < (n : Int) := by omega
        have HO2 := hide own
        obtain ⟨p0, c0, hv0⟩ := (row_len own).2
        subst hv0
        clear own
        go_wp2_with fail
        with_reducible refine (CR.out _ hb k hkn).mono ?_
        rintro e w2 ⟨rfl, hb2⟩
        have HOW := hide (row_step HO2.out hb2)
        have HBW := hide (rat_trans hb hb2)
        clear hb hb2 HO2
        have hlen := filt_len p k
        have hfs := filt_succ p k
        cases hpk : p k
        · rw [hpk, if_neg (by decide)] at hfs
          have O5 : Hid (w2.ownsRow w.heap.size 3 1 (.slice p0 ((List.range k).filter p).length c0) ((List.range (k + 1)).filter p).length (ints ((List.range (k + 1)).filter p))) := hide (by rw [hfs]; exact HOW.out)
          clear hfs hpk HOW
          go_wp2
          go_roundw
          case rel => exact ⟨k + 1, by omega, by go_num, O5.out, HBW.out⟩
          case measure => (simp [intOf]) <;> omega
        · rw [hpk, if_pos rfl] at hfs
          have HFS := hide hfs
          clear hfs hpk
          go_upto_region 6 with (at_builtin; refine App.wpList_app _ rfl _ _ 32 rfl w.heap.size 3 i0 _ 1 8 Try.underlying32 HI0.out HZ0.out HZ1.out HZ2.out rfl (by decide) _ _ _ rfl (HOW.out.alloc _) _ 1 _ [.int .i64 (k : Int)] rfl (App.src_block (heap_alloc_new _ _) rfl) (by intro x hx; simp at hx; rcases hx with rfl; rfl) (by unfold maxLen; omega) (by omega) (rat_up HBW.out _).size ?_; intro v5 w5 own5 g5 d5)
          rw [ints_snoc] at own5
          have hb5 := hide (app_low (rat_up HBW.out _) g5 (HOW.out.alloc _))
          have O5 : Hid (w5.ownsRow w.heap.size 3 1 v5 ((List.range (k + 1)).filter p).length (ints ((List.range (k + 1)).filter p))) := hide (by rw [HFS.out, List.length_append]; exact own5)
          clear own5 g5 d5 HOW HBW HFS
          go_wp2
          go_roundw
          case rel => exact ⟨k + 1, by omega, by go_num, O5.out, hb5.out⟩
          case measure => (simp [intOf]) <;> omega
      · have e : k = n := by omega
        subst e
        have hkk : decide ((k : Int) < (k : Int)) = false := by simp
        go_wp2
        go_ret
        exact ⟨_, rfl, own, hb⟩
  · have hS : rlowS X L H n = [] := by unfold rlowS; rw [if_neg hc]
    rw [hS]
    clear hS hr
    generalize chkG X L H n = c at *
    have hcb : (c != 0) = true := by simp [hc]
    go_enter Try.func20, Try.ntmps20
    go_wp2_with fail
    with_reducible refine (CC.out _ (Below.refl _ _)).mono ?_
    rintro e w1 ⟨rfl, hb⟩
    go_wp2
    go_ret
    exact ⟨_, rfl, World.ownsRow_nil _ _ _ _, hb⟩
theorem rupp_low {X L H : Nat → Int} {n : Nat} (ok : GOk X L H n) : rlowS X (fun i => -H i) (fun i => -L i) n = ruppS X L H n := by
  unfold rlowS ruppS
  rw [if_pos (ok_chk (turn_ok ok)), if_pos (ok_chk ok)]
set_option maxRecDepth 100000 in
set_option maxHeartbeats 6400000 in
theorem RUpper_any (a : Option Addr) (n cap : Nat) (X L H : Nat → Int) (w : World) (hr : GatesAt w a n X L H) :
    Calls Try.prog 22 #[.slice a n cap] w fun e w' => ∃ v, e = .returned v ∧ w'.ownsRow w.heap.size 3 1 v (ruppS X L H n).length (ints (ruppS X L H n)) ∧ Below w.heap.size w w' := by
  have hn63 := hr.1
  have CC := hide (fun W (h : Below w.heap.size w W) => RCheck_any a n cap X L H W (hr.below h))
  by_cases hc : chkG X L H n = 0
  · rw [hc] at CC
    have HO := hide (chk_ok hc)
    have CT := hide (fun W (h : Below w.heap.size w W) => turned_any a n cap X L H W (hr.below h) HO.out.r HO.out.n1 HO.out.n2)
    clear hr
    go_enter Try.func22, Try.ntmps22
    go_wp2_with fail
    with_reducible refine (CC.out _ (Below.refl _ _)).mono ?_
    rintro e w1 ⟨rfl, hb⟩
    clear CC
    go_wp2_with fail
    with_reducible refine (CT.out _ hb).mono ?_
    rintro e w2 ⟨v, rfl, own, hb2⟩
    replace hb := rat_trans hb hb2
    clear hb2 CT
    obtain ⟨pt, ct, hv, hgt, hct⟩ := row_gates own (by omega)
    subst hv
    clear own
    have CL := hide (RLower_any pt n ct _ _ _ w2 hgt)
    rw [rupp_low HO.out] at CL
    clear hgt hct
    go_wp2_with fail
    with_reducible refine CL.out.mono ?_
    rintro e w3 ⟨v, rfl, own, hb3⟩
    have HOW := hide (own.mono hb.size)
    have HB := hide (rat_trans hb hb3)
    clear own hb hb3 CL
    go_wp2
    go_ret
    exact ⟨_, rfl, HOW.out, HB.out⟩
  · have hS : ruppS X L H n = [] := by unfold ruppS; rw [if_neg hc]
    rw [hS]
    clear hS hr
    generalize chkG X L H n = c at *
    have hcb : (c != 0) = true := by simp [hc]
    go_enter Try.func22, Try.ntmps22
    go_wp2_with fail
    with_reducible refine (CC.out _ (Below.refl _ _)).mono ?_
    rintro e w1 ⟨rfl, hb⟩
    go_wp2
    go_ret
    exact ⟨_, rfl, World.ownsRow_nil _ _ _ _, hb⟩
end Go.Proofs.Ytjjhdigbgmbmnaa.Skw
