/- The contract of skew.hull. -/
import Derived.Test.YtjjhdigbgmbmnaaSkwT
namespace Go.Proofs.Ytjjhdigbgmbmnaa.Skw
open Go.RowKit Aid Fx
set_option maxRecDepth 100000 in
set_option maxHeartbeats 12800000 in
theorem hull_low (gl n : Nat) (c : Nat → Nat → Nat → Bool) (w : World) (hn : n ≤ 1024)
    (hc : ∀ W, Below w.heap.size w W → ∀ i j k, i < j → j < k → k < n → Calls Try.prog 33 #[.int .i64 i, .int .i64 j, .int .i64 k, .pointer (some ⟨gl, 0, none⟩)] W fun e w' => e = .returned (.bool (c i j k)) ∧ Below W.heap.size W w') :
    Calls Try.prog 32 #[.int .i64 n, .func (.func 33) #[] #[.pointer (some ⟨gl, 0, none⟩)]] w fun e w' => ∃ v, e = .returned v ∧ w'.ownsRow w.heap.size 3 1 v (hullS c n).length (ints (hullS c n).reverse) ∧ Below w.heap.size w w' := by
  have HC := hide hc
  clear hc
  obtain ⟨i0, hi0, hz0, hz1, hz2⟩ := info_parts info_int
  have HI0 := hide hi0
  have HZ0 := hide hz0
  have HZ1 := hide hz1
  have HZ2 := hide hz2
  clear hi0 hz0 hz1 hz2
  go_enter Try.func32, Try.ntmps32
  go_wp2
  go_loopw [5, 8] (fun v i wr => ∃ k : Nat, k ≤ n ∧ i = .int .i64 k ∧ wr.ownsRow w.heap.size 3 1 v (hullS c k).length (ints (hullS c k).reverse) ∧ Below w.heap.size w wr) (fun _ i _ => n - (intOf i).toNat)
  case atStart => exact ⟨0, Nat.zero_le _, rfl, World.ownsRow_nil _ _ _ _, Below.refl _ _⟩
  case round =>
    obtain ⟨k, hk, rfl, own, hb⟩ := hrel
    by_cases hkn : k < n
    · have hkq : (k : Int) < (n : Int) := by omega
      have HO := hide own
      have HB := hide hb
      have HD := hide (hull_down c k)
      clear own hb
      obtain ⟨p0, c0, hv0⟩ := (row_len HO.out).2
      subst hv0
      go_wp2
      go_loopw [5] (fun v wx => ∃ st, wx.ownsRow w.heap.size 3 1 v st.length (ints st.reverse) ∧ Down k st ∧ popW c k st = popW c k (hullS c k) ∧ Below w.heap.size w wx) (fun v _ => lnOf v)
      case atStart => exact ⟨_, HO.out, HD.out, rfl, HB.out⟩
      case round =>
        clear HO HB HD
        obtain ⟨st, own, hd, hpop, hb⟩ := hrel
        rcases st with _ | ⟨x, _ | ⟨i, t⟩⟩
        · obtain ⟨p, cc, hv⟩ := (row_len own).2
          simp only [List.length_nil] at hv own
          subst hv
          have HP : Hid (popW c k (hullS c k) = []) := hide (by rw [← hpop]; rfl)
          clear hpop hd
          have own0 := own
          have hb0 := hb
          clear own hb
          go_upto_region 5 with fail
          go_quiet (fail)
          have HO := hide (row_step own0 (below_drewN (Below.refl wr.heap.size wr) nq))
          have HB := hide (below_drewN hb0 nq)
          clear own0 hb0
          have hlen := hull_down c (k + 1)
          have hl2 := hlen.len
          unfold hullS at hl2
          rw [HP.out] at hl2
          simp only [List.length_cons, List.length_nil] at hl2
          clear hlen
          go_upto_region 8 with (at_builtin; refine App.wpList_app _ rfl _ _ 32 rfl w.heap.size 3 i0 _ 1 8 Try.underlying32 HI0.out HZ0.out HZ1.out HZ2.out rfl (by decide) _ _ _ rfl (HO.out.alloc _) _ 1 _ [.int .i64 (k : Int)] rfl (App.src_block (heap_alloc_new _ _) rfl) (by intro x hx; simp at hx; rcases hx with rfl; rfl) (by unfold maxLen; omega) (by omega) (rat_up HB.out _).size ?_; intro v5 w5 own5 g5 d5)
          rw [row_add] at own5
          have hb5 := hide (app_low (rat_up HB.out _) g5 (HO.out.alloc _))
          have O5 : Hid (w5.ownsRow w.heap.size 3 1 v5 (hullS c (k + 1)).length (ints (hullS c (k + 1)).reverse)) := hide (by unfold hullS; rw [HP.out]; exact own5)
          clear own5 g5 d5 HO HB HP hl2
          go_wp2
          go_roundw
          case rel => exact ⟨k + 1, by omega, by go_num, O5.out, hb5.out⟩
          case measure => (simp [intOf]) <;> omega
        · obtain ⟨p, cc, hv⟩ := (row_len own).2
          simp only [List.length_cons, List.length_nil, Nat.zero_add] at hv own
          subst hv
          have HP : Hid (popW c k (hullS c k) = [x]) := hide (by rw [← hpop]; rfl)
          clear hpop hd
          have own0 := own
          have hb0 := hb
          clear own hb
          go_upto_region 5 with fail
          go_quiet (fail)
          have HO := hide (row_step own0 (below_drewN (Below.refl wr.heap.size wr) nq))
          have HB := hide (below_drewN hb0 nq)
          clear own0 hb0
          have hlen := hull_down c (k + 1)
          have hl2 := hlen.len
          unfold hullS at hl2
          rw [HP.out] at hl2
          simp only [List.length_cons, List.length_nil] at hl2
          clear hlen
          go_upto_region 8 with (at_builtin; refine App.wpList_app _ rfl _ _ 32 rfl w.heap.size 3 i0 _ 1 8 Try.underlying32 HI0.out HZ0.out HZ1.out HZ2.out rfl (by decide) _ _ _ rfl (HO.out.alloc _) _ 1 _ [.int .i64 (k : Int)] rfl (App.src_block (heap_alloc_new _ _) rfl) (by intro x hx; simp at hx; rcases hx with rfl; rfl) (by unfold maxLen; omega) (by omega) (rat_up HB.out _).size ?_; intro v5 w5 own5 g5 d5)
          rw [row_add] at own5
          have hb5 := hide (app_low (rat_up HB.out _) g5 (HO.out.alloc _))
          have O5 : Hid (w5.ownsRow w.heap.size 3 1 v5 (hullS c (k + 1)).length (ints (hullS c (k + 1)).reverse)) := hide (by unfold hullS; rw [HP.out]; exact own5)
          clear own5 g5 d5 HO HB HP hl2
          go_wp2
          go_roundw
          case rel => exact ⟨k + 1, by omega, by go_num, O5.out, hb5.out⟩
          case measure => (simp [intOf]) <;> omega
        · obtain ⟨q, hq⟩ : ∃ q, t.length = q := ⟨_, rfl⟩
          have own2 := own
          rw [show (x :: i :: t).length = q + 2 by simp [hq]] at own2
          obtain ⟨g, cap, hv, hbg, hgl, e0, e1, hcap1, hcap2, own3⟩ := row_two own2 hq
          subst hv
          have hij := (List.pairwise_cons.1 hd.2).1 i (List.mem_cons_self ..)
          have hxk := hd.1 x (List.mem_cons_self ..)
          have HC1 := hide (fun W (h : Below wr.heap.size wr W) => (HC.out W (hb.trans (h.mono hb.size)) i x k hij hxk hkn).mono fun _ _ q => And.intro q.1 (rat_trans h q.2))
          have HK := hide (fun W (h : Below wr.heap.size wr W) => And.intro ((h.cell (p := ⟨g, q, none⟩) hgl).trans e0) ((h.cell (p := ⟨g, q + 1, none⟩) hgl).trans e1))
          have HS := hide hd
          have HPP := hide hpop
          have HO2 := hide own2
          have HO3 := hide own3
          have HB2 := hide hb
          have hql : q + 2 ≤ k := by have := hd.len; simp only [List.length_cons, hq] at this; omega
          have w1 : IntKind.i64.wrap ((q : Int) + 2 - 2) = (q : Int) := by rw [show (q : Int) + 2 - 2 = q by omega]; exact IntWalk.i64_in _ (by omega)
          have w2 : IntKind.i64.wrap ((q : Int) + 2 - 1) = (q : Int) + 1 := by rw [show (q : Int) + 2 - 1 = q + 1 by omega]; exact IntWalk.i64_in _ (by omega)
          have f1 : (0 : Int) ≤ (q : Int) := by omega
          have f2 : (q : Int) < (q : Int) + 2 := by omega
          have f3 : (0 : Int) ≤ (q : Int) + 1 := by omega
          have f4 : (q : Int) + 1 < (q : Int) + 2 := by omega
          have f5 : (2 : Int) ≤ (q : Int) + 2 := by omega
          clear own own2 own3 hd hpop hb e0 e1 hij hxk
          generalize hcv : c i x k = cv at HC1
          have HCV := hide hcv
          clear hcv
          go_upto_region 5 with fail
          have hne := lt_some wr
          have y0 := fun V : Lt wr => (HK.out _ V.h).1
          have y1 := fun V : Lt wr => (HK.out _ V.h).2
          refine region_lt wr (by kernel_rfl) (by kernel_rfl) (Below.refl _ _) ?_
          repeat (first | go_big_quiet_step (first | (go_at_call 33; with_reducible exact call_lt (HC1.out _ (Lt.h _)))) | quiet_step (first | (go_at_call 33; with_reducible exact call_lt (HC1.out _ (Lt.h _)))))
          refine wpQuiet_nil ?_
          intro _ hw'
          obtain ⟨V, rfl⟩ := hw'
          clear y0 y1 hne
          have hcq : (q : Int) + 1 ≤ (cap : Int) := by omega
          cases cv
          · have HO := hide (row_step HO3.out V.h)
            have HB := hide (HB2.out.trans (V.h.mono HB2.out.size))
            have HP : Hid (popW c k (i :: t) = popW c k (hullS c k)) := hide ((pop_no HCV.out).symm.trans HPP.out)
            clear HO2 HO3 HB2 HPP HK HC1
            go_wp2
            go_roundw
            case rel => exact ⟨i :: t, by rw [List.length_cons, hq]; exact HO.out, HS.out.suffix (List.suffix_cons _ _), HP.out, HB.out⟩
            case measure => simp [lnOf]
          · have HO := hide (row_step HO2.out V.h)
            have HB := hide (HB2.out.trans (V.h.mono HB2.out.size))
            have HP : Hid (popW c k (hullS c k) = x :: i :: t) := hide (by rw [← HPP.out]; unfold popW; rw [HCV.out]; rfl)
            clear HO2 HO3 HB2 HPP HK HC1 HS
            have hlen := hull_down c (k + 1)
            have hl2 := hlen.len
            unfold hullS at hl2
            rw [HP.out] at hl2
            simp only [List.length_cons, List.length_nil] at hl2
            clear hlen
            go_upto_region 8 with (at_builtin; refine App.wpList_app _ rfl _ _ 32 rfl w.heap.size 3 i0 _ 1 8 Try.underlying32 HI0.out HZ0.out HZ1.out HZ2.out rfl (by decide) _ _ _ rfl (HO.out.alloc _) _ 1 _ [.int .i64 (k : Int)] rfl (App.src_block (heap_alloc_new _ _) rfl) (by intro x hx; simp at hx; rcases hx with rfl; rfl) (by unfold maxLen; omega) (by omega) (rat_up HB.out _).size ?_; intro v5 w5 own5 g5 d5)
            rw [row_add] at own5
            have hb5 := hide (app_low (rat_up HB.out _) g5 (HO.out.alloc _))
            have O5 : Hid (w5.ownsRow w.heap.size 3 1 v5 (hullS c (k + 1)).length (ints (hullS c (k + 1)).reverse)) := hide (by unfold hullS; rw [HP.out]; rw [List.length_cons, List.length_cons, List.length_cons, hq]; exact own5)
            clear own5 g5 d5 HO HB HP hl2
            go_wp2
            go_roundw
            case rel => exact ⟨k + 1, by omega, by go_num, O5.out, hb5.out⟩
            case measure => (simp [intOf]) <;> omega
    · have e : k = n := by omega
      subst e
      have hkk : decide ((k : Int) < (k : Int)) = false := by simp
      go_wp2
      go_ret
      exact ⟨_, rfl, own, hb⟩
set_option maxRecDepth 100000 in
set_option maxHeartbeats 12800000 in
theorem hull_upp (gl n : Nat) (c : Nat → Nat → Nat → Bool) (w : World) (hn : n ≤ 1024)
    (hc : ∀ W, Below w.heap.size w W → ∀ i j k, i < j → j < k → k < n → Calls Try.prog 36 #[.int .i64 i, .int .i64 j, .int .i64 k, .pointer (some ⟨gl, 0, none⟩)] W fun e w' => e = .returned (.bool (c i j k)) ∧ Below W.heap.size W w') :
    Calls Try.prog 32 #[.int .i64 n, .func (.func 36) #[] #[.pointer (some ⟨gl, 0, none⟩)]] w fun e w' => ∃ v, e = .returned v ∧ w'.ownsRow w.heap.size 3 1 v (hullS c n).length (ints (hullS c n).reverse) ∧ Below w.heap.size w w' := by
  have HC := hide hc
  clear hc
  obtain ⟨i0, hi0, hz0, hz1, hz2⟩ := info_parts info_int
  have HI0 := hide hi0
  have HZ0 := hide hz0
  have HZ1 := hide hz1
  have HZ2 := hide hz2
  clear hi0 hz0 hz1 hz2
  go_enter Try.func32, Try.ntmps32
  go_wp2
  go_loopw [5, 8] (fun v i wr => ∃ k : Nat, k ≤ n ∧ i = .int .i64 k ∧ wr.ownsRow w.heap.size 3 1 v (hullS c k).length (ints (hullS c k).reverse) ∧ Below w.heap.size w wr) (fun _ i _ => n - (intOf i).toNat)
  case atStart => exact ⟨0, Nat.zero_le _, rfl, World.ownsRow_nil _ _ _ _, Below.refl _ _⟩
  case round =>
    obtain ⟨k, hk, rfl, own, hb⟩ := hrel
    by_cases hkn : k < n
    · have hkq : (k : Int) < (n : Int) := by omega
      have HO := hide own
      have HB := hide hb
      have HD := hide (hull_down c k)
      clear own hb
      obtain ⟨p0, c0, hv0⟩ := (row_len HO.out).2
      subst hv0
      go_wp2
      go_loopw [5] (fun v wx => ∃ st, wx.ownsRow w.heap.size 3 1 v st.length (ints st.reverse) ∧ Down k st ∧ popW c k st = popW c k (hullS c k) ∧ Below w.heap.size w wx) (fun v _ => lnOf v)
      case atStart => exact ⟨_, HO.out, HD.out, rfl, HB.out⟩
      case round =>
        clear HO HB HD
        obtain ⟨st, own, hd, hpop, hb⟩ := hrel
        rcases st with _ | ⟨x, _ | ⟨i, t⟩⟩
        · obtain ⟨p, cc, hv⟩ := (row_len own).2
          simp only [List.length_nil] at hv own
          subst hv
          have HP : Hid (popW c k (hullS c k) = []) := hide (by rw [← hpop]; rfl)
          clear hpop hd
          have own0 := own
          have hb0 := hb
          clear own hb
          go_upto_region 5 with fail
          go_quiet (fail)
          have HO := hide (row_step own0 (below_drewN (Below.refl wr.heap.size wr) nq))
          have HB := hide (below_drewN hb0 nq)
          clear own0 hb0
          have hlen := hull_down c (k + 1)
          have hl2 := hlen.len
          unfold hullS at hl2
          rw [HP.out] at hl2
          simp only [List.length_cons, List.length_nil] at hl2
          clear hlen
          go_upto_region 8 with (at_builtin; refine App.wpList_app _ rfl _ _ 32 rfl w.heap.size 3 i0 _ 1 8 Try.underlying32 HI0.out HZ0.out HZ1.out HZ2.out rfl (by decide) _ _ _ rfl (HO.out.alloc _) _ 1 _ [.int .i64 (k : Int)] rfl (App.src_block (heap_alloc_new _ _) rfl) (by intro x hx; simp at hx; rcases hx with rfl; rfl) (by unfold maxLen; omega) (by omega) (rat_up HB.out _).size ?_; intro v5 w5 own5 g5 d5)
          rw [row_add] at own5
          have hb5 := hide (app_low (rat_up HB.out _) g5 (HO.out.alloc _))
          have O5 : Hid (w5.ownsRow w.heap.size 3 1 v5 (hullS c (k + 1)).length (ints (hullS c (k + 1)).reverse)) := hide (by unfold hullS; rw [HP.out]; exact own5)
          clear own5 g5 d5 HO HB HP hl2
          go_wp2
          go_roundw
          case rel => exact ⟨k + 1, by omega, by go_num, O5.out, hb5.out⟩
          case measure => (simp [intOf]) <;> omega
        · obtain ⟨p, cc, hv⟩ := (row_len own).2
          simp only [List.length_cons, List.length_nil, Nat.zero_add] at hv own
          subst hv
          have HP : Hid (popW c k (hullS c k) = [x]) := hide (by rw [← hpop]; rfl)
          clear hpop hd
          have own0 := own
          have hb0 := hb
          clear own hb
          go_upto_region 5 with fail
          go_quiet (fail)
          have HO := hide (row_step own0 (below_drewN (Below.refl wr.heap.size wr) nq))
          have HB := hide (below_drewN hb0 nq)
          clear own0 hb0
          have hlen := hull_down c (k + 1)
          have hl2 := hlen.len
          unfold hullS at hl2
          rw [HP.out] at hl2
          simp only [List.length_cons, List.length_nil] at hl2
          clear hlen
          go_upto_region 8 with (at_builtin; refine App.wpList_app _ rfl _ _ 32 rfl w.heap.size 3 i0 _ 1 8 Try.underlying32 HI0.out HZ0.out HZ1.out HZ2.out rfl (by decide) _ _ _ rfl (HO.out.alloc _) _ 1 _ [.int .i64 (k : Int)] rfl (App.src_block (heap_alloc_new _ _) rfl) (by intro x hx; simp at hx; rcases hx with rfl; rfl) (by unfold maxLen; omega) (by omega) (rat_up HB.out _).size ?_; intro v5 w5 own5 g5 d5)
          rw [row_add] at own5
          have hb5 := hide (app_low (rat_up HB.out _) g5 (HO.out.alloc _))
          have O5 : Hid (w5.ownsRow w.heap.size 3 1 v5 (hullS c (k + 1)).length (ints (hullS c (k + 1)).reverse)) := hide (by unfold hullS; rw [HP.out]; exact own5)
          clear own5 g5 d5 HO HB HP hl2
          go_wp2
          go_roundw
          case rel => exact ⟨k + 1, by omega, by go_num, O5.out, hb5.out⟩
          case measure => (simp [intOf]) <;> omega
        · obtain ⟨q, hq⟩ : ∃ q, t.length = q := ⟨_, rfl⟩
          have own2 := own
          rw [show (x :: i :: t).length = q + 2 by simp [hq]] at own2
          obtain ⟨g, cap, hv, hbg, hgl, e0, e1, hcap1, hcap2, own3⟩ := row_two own2 hq
          subst hv
          have hij := (List.pairwise_cons.1 hd.2).1 i (List.mem_cons_self ..)
          have hxk := hd.1 x (List.mem_cons_self ..)
          have HC1 := hide (fun W (h : Below wr.heap.size wr W) => (HC.out W (hb.trans (h.mono hb.size)) i x k hij hxk hkn).mono fun _ _ q => And.intro q.1 (rat_trans h q.2))
          have HK := hide (fun W (h : Below wr.heap.size wr W) => And.intro ((h.cell (p := ⟨g, q, none⟩) hgl).trans e0) ((h.cell (p := ⟨g, q + 1, none⟩) hgl).trans e1))
          have HS := hide hd
          have HPP := hide hpop
          have HO2 := hide own2
          have HO3 := hide own3
          have HB2 := hide hb
          have hql : q + 2 ≤ k := by have := hd.len; simp only [List.length_cons, hq] at this; omega
          have w1 : IntKind.i64.wrap ((q : Int) + 2 - 2) = (q : Int) := by rw [show (q : Int) + 2 - 2 = q by omega]; exact IntWalk.i64_in _ (by omega)
          have w2 : IntKind.i64.wrap ((q : Int) + 2 - 1) = (q : Int) + 1 := by rw [show (q : Int) + 2 - 1 = q + 1 by omega]; exact IntWalk.i64_in _ (by omega)
          have f1 : (0 : Int) ≤ (q : Int) := by omega
          have f2 : (q : Int) < (q : Int) + 2 := by omega
          have f3 : (0 : Int) ≤ (q : Int) + 1 := by omega
          have f4 : (q : Int) + 1 < (q : Int) + 2 := by omega
          have f5 : (2 : Int) ≤ (q : Int) + 2 := by omega
          clear own own2 own3 hd hpop hb e0 e1 hij hxk
          generalize hcv : c i x k = cv at HC1
          have HCV := hide hcv
          clear hcv
          go_upto_region 5 with fail
          have hne := lt_some wr
          have y0 := fun V : Lt wr => (HK.out _ V.h).1
          have y1 := fun V : Lt wr => (HK.out _ V.h).2
          refine region_lt wr (by kernel_rfl) (by kernel_rfl) (Below.refl _ _) ?_
          repeat (first | go_big_quiet_step (first | (go_at_call 36; with_reducible exact call_lt (HC1.out _ (Lt.h _)))) | quiet_step (first | (go_at_call 36; with_reducible exact call_lt (HC1.out _ (Lt.h _)))))
          refine wpQuiet_nil ?_
          intro _ hw'
          obtain ⟨V, rfl⟩ := hw'
          clear y0 y1 hne
          have hcq : (q : Int) + 1 ≤ (cap : Int) := by omega
          cases cv
          · have HO := hide (row_step HO3.out V.h)
            have HB := hide (HB2.out.trans (V.h.mono HB2.out.size))
            have HP : Hid (popW c k (i :: t) = popW c k (hullS c k)) := hide ((pop_no HCV.out).symm.trans HPP.out)
            clear HO2 HO3 HB2 HPP HK HC1
            go_wp2
            go_roundw
            case rel => exact ⟨i :: t, by rw [List.length_cons, hq]; exact HO.out, HS.out.suffix (List.suffix_cons _ _), HP.out, HB.out⟩
            case measure => simp [lnOf]
          · have HO := hide (row_step HO2.out V.h)
            have HB := hide (HB2.out.trans (V.h.mono HB2.out.size))
            have HP : Hid (popW c k (hullS c k) = x :: i :: t) := hide (by rw [← HPP.out]; unfold popW; rw [HCV.out]; rfl)
            clear HO2 HO3 HB2 HPP HK HC1 HS
            have hlen := hull_down c (k + 1)
            have hl2 := hlen.len
            unfold hullS at hl2
            rw [HP.out] at hl2
            simp only [List.length_cons, List.length_nil] at hl2
            clear hlen
            go_upto_region 8 with (at_builtin; refine App.wpList_app _ rfl _ _ 32 rfl w.heap.size 3 i0 _ 1 8 Try.underlying32 HI0.out HZ0.out HZ1.out HZ2.out rfl (by decide) _ _ _ rfl (HO.out.alloc _) _ 1 _ [.int .i64 (k : Int)] rfl (App.src_block (heap_alloc_new _ _) rfl) (by intro x hx; simp at hx; rcases hx with rfl; rfl) (by unfold maxLen; omega) (by omega) (rat_up HB.out _).size ?_; intro v5 w5 own5 g5 d5)
            rw [row_add] at own5
            have hb5 := hide (app_low (rat_up HB.out _) g5 (HO.out.alloc _))
            have O5 : Hid (w5.ownsRow w.heap.size 3 1 v5 (hullS c (k + 1)).length (ints (hullS c (k + 1)).reverse)) := hide (by unfold hullS; rw [HP.out]; rw [List.length_cons, List.length_cons, List.length_cons, hq]; exact own5)
            clear own5 g5 d5 HO HB HP hl2
            go_wp2
            go_roundw
            case rel => exact ⟨k + 1, by omega, by go_num, O5.out, hb5.out⟩
            case measure => (simp [intOf]) <;> omega
    · have e : k = n := by omega
      subst e
      have hkk : decide ((k : Int) < (k : Int)) = false := by simp
      go_wp2
      go_ret
      exact ⟨_, rfl, own, hb⟩
end Go.Proofs.Ytjjhdigbgmbmnaa.Skw
