
/- The walk of the law LeapvoteRuns. -/
import Derived.Test.YtbekfofakpbhiaaDoorVotL
import Derived.Test.YtbekfofakpbhiaaDoorVotQ
import Derived.Test.YtbekfofakpbhiaaDoorKp
import Derived.Deep.RegionHeld3
namespace Go.Proofs.YtbekfofakpbhiaaDoor.Vot
open Go.RowKit Aid Civ Leap App
theorem RAt.step {w w' : World} {g : Nat} {s : Vt} (h : RAt w g s) (hb : Below w.heap.size w w') : RAt w' g s := RowAt.step h hb
def Half (W1 : World) (gp gr : Nat) (sp sr : Vt) (W : World) : Prop := Kp (fun x => x = gp ∨ x = gr) W1.heap.size W1 W ∧ PAt W gp sp ∧ RAt W gr sr
theorem half_p {W1 W : World} {gp gr : Nat} {s sr : Vt} {k i u : Int} (h : Half W1 gp gr s sr W) (hi : Inv s) (hne : gp ≠ gr) :
    Calls Tryd.prog 11 #[.pointer (some ⟨gp, 0, none⟩), .int .i64 k, .int .i64 i, .int .i64 u] W fun e w' => e = .returned (.int .i64 (vErr s k i u)) ∧ Half W1 gp gr (s.next k i u) sr w' :=
  (PVote_any s gp k i u W h.2.1 hi).mono fun e w' q => ⟨q.1, h.1.grown q.2.1 h.1.size (by intro g e; cases e; exact .inl (.inl rfl)), q.2.2, RowAt.other h.2.2 q.2.1 (fun e => hne e.symm)⟩
theorem half_r {W1 W : World} {gp gr : Nat} {s sp : Vt} {k i u : Int} (h : Half W1 gp gr sp s W) (hi : Inv s) (hne : gp ≠ gr) :
    Calls Tryd.prog 12 #[.pointer (some ⟨gr, 0, none⟩), .int .i64 k, .int .i64 i, .int .i64 u] W fun e w' => e = .returned (.int .i64 (vErr s k i u)) ∧ Half W1 gp gr sp (s.next k i u) w' :=
  (RVote_any s gr k i u W h.2.2 hi).mono fun e w' q => ⟨q.1, h.1.grown q.2.1 h.1.size (by intro g e; cases e; exact .inl (.inr rfl)), RowAt.other h.2.1 q.2.1 hne, q.2.2⟩
theorem low_step {w w' : World} (h : ∃ m, w' = w.drewN m) : Below w.heap.size w w' := by obtain ⟨m, rfl⟩ := h; exact below_drewN (Below.refl _ _) m
theorem low_same {w w' : World} (h : w = w') : Below w.heap.size w w' := by subst h; exact Below.refl _ _
theorem ops_cell {w : World} {b off k : Nat} {K I U : Nat → Int} {B : Nat} {S : Nat → Prop} {W0 : World} (h : Below w.heap.size w W0) (hb : b < w.heap.size) (hB : w.heap.size ≤ B) (hs : ¬ S b)
    (hc : w.cell? ⟨b, off + k * 3, none⟩ = some (.int .i64 (K k)) ∧ w.cell? ⟨b, off + k * 3 + 1, none⟩ = some (.int .i64 (I k)) ∧ w.cell? ⟨b, off + k * 3 + 2, none⟩ = some (.int .i64 (U k))) :
    ∀ W, Kp S B W0 W → W.cell? ⟨b, off + k * 3, none⟩ = some (.int .i64 (K k)) ∧ W.cell? ⟨b, off + k * 3 + 1, none⟩ = some (.int .i64 (I k)) ∧ W.cell? ⟨b, off + k * 3 + 2, none⟩ = some (.int .i64 (U k)) :=
  fun W q => ⟨(q.cell (by omega) hs).trans ((h.cell (p := ⟨b, _, none⟩) hb).trans hc.1), (q.cell (by omega) hs).trans ((h.cell (p := ⟨b, _, none⟩) hb).trans hc.2.1), (q.cell (by omega) hs).trans ((h.cell (p := ⟨b, _, none⟩) hb).trans hc.2.2)⟩
/-- the answers at a second v, alike of both voters, in all worlds behind W3 -/
structure Asks (vp vr : Value) (v : Int) (W3 : World) (c0 c1 c2 x0 x1 : Int) (bb : Bool) (dd : Int) : Prop where
  c : ∀ W, Below W3.heap.size W3 W → Calls Tryd.prog 13 #[vp, .int .i64 v] W fun e w' => e = .returned (.tuple #[.int .i64 c0, .int .i64 c1, .int .i64 c2]) ∧ Below W.heap.size W w'
  rc : ∀ W, Below W3.heap.size W3 W → Calls Tryd.prog 14 #[vr, .int .i64 v] W fun e w' => e = .returned (.tuple #[.int .i64 c0, .int .i64 c1, .int .i64 c2]) ∧ Below W.heap.size W w'
  a : ∀ W, Below W3.heap.size W3 W → Calls Tryd.prog 15 #[vp, .int .i64 v] W fun e w' => e = .returned (.tuple #[.agg #[.int .i64 x0, .int .i64 x1], .bool bb]) ∧ Below W.heap.size W w'
  ra : ∀ W, Below W3.heap.size W3 W → Calls Tryd.prog 16 #[vr, .int .i64 v] W fun e w' => e = .returned (.tuple #[.agg #[.int .i64 x0, .int .i64 x1], .bool bb]) ∧ Below W.heap.size W w'
  d : ∀ W, Below W3.heap.size W3 W → Calls Tryd.prog 17 #[vp, .int .i64 v] W fun e w' => e = .returned (.int .i64 dd) ∧ Below W.heap.size W w'
  rd : ∀ W, Below W3.heap.size W3 W → Calls Tryd.prog 18 #[vr, .int .i64 v] W fun e w' => e = .returned (.int .i64 dd) ∧ Below W.heap.size W w'
theorem asks_nil (v : Int) (W3 : World) : ∃ c0 c1 c2 x0 x1 bb d, Asks (.pointer none) (.pointer none) v W3 c0 c1 c2 x0 x1 bb d :=
  ⟨0, 0, 0, 0, 0, false, 3, fun W _ => Counts_nil v W, fun W _ => (RCounts_nil v W).mono fun e w' q => ⟨q.1, low_same q.2⟩,
    fun W _ => Arm_nil v W, fun W _ => RArm_nil v W, fun W _ => Decision_nil v W, fun W _ => (RDecision_nil v W).mono fun e w' q => ⟨q.1, low_same q.2⟩⟩
theorem asks_any {gp gr : Nat} {s : Vt} {W3 : World} (v : Int) (hp : PAt W3 gp s) (hr : RAt W3 gr s) (hi : Inv s) (l : Laid W3) : ∃ c0 c1 c2 x0 x1 bb d, Asks (.pointer (some ⟨gp, 0, none⟩)) (.pointer (some ⟨gr, 0, none⟩)) v W3 c0 c1 c2 x0 x1 bb d :=
  ⟨_, _, _, _, _, _, _, fun W b => Counts_any s gp v W (hp.step b) hi, fun W b => (RCounts_any s gr v W (hr.step b) hi).mono fun e w' q => ⟨q.1, low_same q.2⟩,
    fun W b => Arm_any s gp v W (l.step b) (hp.step b) hi, fun W b => RArm_any s gr v W (hr.step b) hi, fun W b => Decision_any s gp v W (hp.step b) hi, fun W b => (RDecision_any s gr v W (hr.step b) hi).mono fun e w' q => ⟨q.1, low_step q.2⟩⟩
theorem two_lit {w W : World} {x y : Int} {T : TypeId} {j : Nat} (h : Below (w.heap.size + 1) (w.alloc (.cells #[.int .i64 x, .int .i64 y] T)) W) (hj : j < 2) : ∃ v, W.cell? ⟨w.heap.size, j, none⟩ = some (.int .i64 v) := by
  have e := h.cell (p := ⟨w.heap.size, j, none⟩) (by simp)
  rcases (show j = 0 ∨ j = 1 by omega) with rfl | rfl
  · exact ⟨x, e.trans (by simp [go_sem])⟩
  · exact ⟨y, e.trans (by simp [go_sem])⟩
theorem LeapvoteRuns_long (n : Int) (a : Option Addr) (m cap : Nat) (u : Int) (w : World) (hm : 100 < m) (hm2 : m ≤ 9223372036854775807) (l : Laid w) :
    Calls Tryd.prog 3 #[.int .i64 n, .slice a m cap, .int .i64 u] w fun e w' => e = .returned (.bool true) ∧ Below w.heap.size w w' := by
  have CW := hide (awake_any w l)
  have hq : 100 < (m : Int) := by omega
  clear l
  go_enter Tryd.func3, Tryd.ntmps3
  go_wp2_with fail
  refine CW.out.mono ?_
  rintro e w1 ⟨rfl, b1⟩
  have HF := hide b1
  clear b1
  go_wp2
  go_ret
  exact ⟨rfl, HF.out⟩
set_option maxRecDepth 100000 in
set_option maxHeartbeats 12800000 in
theorem LeapvoteRuns_nil (n : Int) (a : Option Addr) (m cap : Nat) (K I U : Nat → Int) (u : Int) (w : World) (hr : OpsAt w a m K I U) (hm : m ≤ 100) (hn : ¬ (1 ≤ n ∧ n ≤ 12)) (l : Laid w) :
    Calls Tryd.prog 3 #[.int .i64 n, .slice a m cap, .int .i64 u] w fun e w' => e = .returned (.bool true) ∧ Below w.heap.size w w' := by
  have hq : (m : Int) ≤ 100 := by omega
  have hl := l.lt
  have HR := hide hr
  have HL := hide l
  have CW := hide (fun W (b : Below w.heap.size w W) => awake_any W (l.step b))
  have C1 := hide (PNew_bad n w hn)
  have C2 := hide (RNew_bad n w hn)
  clear hr l hn
  go_enter Tryd.func3, Tryd.ntmps3
  go_wp2_with fail
  refine C1.out.mono ?_
  rintro e _ ⟨rfl, rfl⟩
  go_wp2_with fail
  refine C2.out.mono ?_
  rintro e _ ⟨rfl, rfl⟩
  have hbw := Below.refl w.heap.size w
  obtain ⟨W0, hW0⟩ : ∃ W0, W0 = w := ⟨_, rfl⟩
  rw [← hW0]
  have HBW : Hid (Below w.heap.size w W0) := hide (by rw [hW0]; exact Below.refl _ _)
  clear hW0 hbw C1 C2
  go_wp2_with fail
  go_loopw [38] (fun i wr => ∃ k : Nat, k ≤ m ∧ i = .int .i64 k ∧ Kp (fun _ => False) W0.heap.size W0 wr) (fun i _ => m - (intOf i).toNat)
  case atStart => exact ⟨0, by omega, rfl, Kp.refl _ _ _⟩
  case round =>
    obtain ⟨k, hk, rfl, hkp⟩ := hrel
    have hsz := hkp.size
    have hwz := HBW.out.size
    have hbw : Below w.heap.size w wr := kp_fin HBW.out hkp (by intro q hq; first | exact absurd hq id | (rcases hq with rfl | rfl <;> omega))
    by_cases hlt : k < m
    · obtain ⟨b, off, rfl, hbl, hc⟩ := HR.out.2 (by omega)
      obtain ⟨c0, c1, c2⟩ := ops_cell HBW.out hbl hwz (by first | exact id | omega) (hc k hlt) wr hkp
      have hlt2 : (k : Int) < (m : Int) := by omega
      have hbq : b < wr.heap.size := by omega
      obtain ⟨x, hx⟩ : ∃ x, x = K k := ⟨_, rfl⟩
      obtain ⟨y, hy⟩ : ∃ x, x = I k := ⟨_, rfl⟩
      obtain ⟨z, hz⟩ : ∃ x, x = U k := ⟨_, rfl⟩
      rw [← hx] at c0
      rw [← hy] at c1
      rw [← hz] at c2
      clear hx hy hz hc
      obtain ⟨W1, hW1⟩ : ∃ W1, W1 = wr.alloc (.cells #[.int .i64 x, .int .i64 y, .int .i64 z] 29) := ⟨_, rfl⟩
      have g1 : Below wr.heap.size wr W1 := by rw [hW1]; exact (Below.refl _ _).alloc (Nat.le_refl _) _
      have z1 : W1.heap.size = wr.heap.size + 1 := by rw [hW1]; simp
      have d0 : W1.cell? ⟨wr.heap.size, 0, none⟩ = some (.int .i64 x) := by rw [hW1]; simp [go_sem]
      have d1 : W1.cell? ⟨wr.heap.size, 1, none⟩ = some (.int .i64 y) := by rw [hW1]; simp [go_sem]
      have d2 : W1.cell? ⟨wr.heap.size, 2, none⟩ = some (.int .i64 z) := by rw [hW1]; simp [go_sem]
      have HW1 := hide hW1
      have HG1 := hide g1
      have HKP := hide hkp
      have HBR := hide hbw
      have CP := hide (fun W (_ : Below W1.heap.size W1 W) => (PVote_nil x y z W).mono fun e w' q => (show e = .returned (.int .i64 1) ∧ Below W1.heap.size W1 w' from ⟨q.1, by rw [← q.2]; assumption⟩))
      have CR := hide (fun W (_ : Below W1.heap.size W1 W) => (RVote_nil x y z W).mono fun e w' q => (show e = .returned (.int .i64 1) ∧ Below W1.heap.size W1 w' from ⟨q.1, by rw [← q.2]; assumption⟩))
      clear hW1 g1 hkp hbw
      go_upto_region 9 with fail
      rw [← HW1.out]
      have hbq1 := Below.refl W1.heap.size W1
      have HD := hide (fun V (q : Below W1.heap.size W1 V) => And.intro ((q.cell (p := ⟨wr.heap.size, 0, none⟩) (by dsimp only; omega)).trans d0) (And.intro ((q.cell (p := ⟨wr.heap.size, 1, none⟩) (by dsimp only; omega)).trans d1) ((q.cell (p := ⟨wr.heap.size, 2, none⟩) (by dsimp only; omega)).trans d2)))
      have hne := lt_some W1
      have y0 := fun V : Lt W1 => (HD.out _ V.h).1
      have y1 := fun V : Lt W1 => (HD.out _ V.h).2.1
      have y2 := fun V : Lt W1 => (HD.out _ V.h).2.2
      refine region_lt W1 (by kernel_rfl) (by kernel_rfl) hbq1 ?_
      repeat (first | go_big_quiet_step (first | (go_at_call 11; with_reducible exact call_lt (CP.out _ (Lt.h _))) | (go_at_call 12; with_reducible exact call_lt (CR.out _ (Lt.h _)))) | quiet_step (first | (go_at_call 11; with_reducible exact call_lt (CP.out _ (Lt.h _))) | (go_at_call 12; with_reducible exact call_lt (CR.out _ (Lt.h _)))))
      refine wpQuiet_nil ?_
      intro _ hw'
      obtain ⟨V, rfl⟩ := hw'
      obtain ⟨W2, hW2⟩ : ∃ W2, W2 = V.w := ⟨_, rfl⟩
      have b2 := V.h
      rw [← hW2] at b2 ⊢
      have hz2 := b2.size
      obtain ⟨f0, f1, f2⟩ := HD.out _ b2
      have HK2 := hide (HKP.out.step (HG1.out.trans (b2.mono (by omega))) (by omega))
      have HB2 := hide (HBR.out.trans ((HG1.out.trans (b2.mono (by omega))).mono HBR.out.size))
      clear y0 y1 y2 hne hW2 V hbq1 b2 c0 c1 c2 d0 d1 d2 CP CR
      obtain ⟨W3, hW3⟩ : ∃ W3, W3 = W2.alloc (.cells #[.int .i64 z, .int .i64 u] 3) := ⟨_, rfl⟩
      have g3 : Below W2.heap.size W2 W3 := by rw [hW3]; exact (Below.refl _ _).alloc (Nat.le_refl _) _
      have z3 : W3.heap.size = W2.heap.size + 1 := by rw [hW3]; simp
      have HLIT := hide (fun W (q : Below W3.heap.size W3 W) j (hj : j < 2) => two_lit (w := W2) (x := z) (y := u) (T := 3) (W := W) (by rw [← hW3, ← z3]; exact q) hj)
      have HK3 := hide (HK2.out.step g3 (by omega))
      have HB3 := hide (HB2.out.trans (g3.mono HB2.out.size))
      have HW3 := hide hW3
      have HA := hide (fun v => asks_nil v W3)
      clear hW3 g3
      go_wp2_with fail
      rw [← HW3.out]
      go_loopw [64] (fun i wx => ∃ j : Nat, j ≤ 2 ∧ i = .int .i64 j ∧ Below W3.heap.size W3 wx) (fun i _ => 2 - (intOf i).toNat)
      case atStart => exact ⟨0, by omega, rfl, Below.refl _ _⟩
      case round =>
        obtain ⟨j, hj, rfl, hb⟩ := hrel
        by_cases hlj : j < 2
        · obtain ⟨v, cv⟩ := HLIT.out _ hb j hlj
          have hlj2 : (j : Int) < 2 := by omega
          obtain ⟨c0, c1, c2, x0, x1, bb, d, A⟩ := HA.out v
          have HQ := hide A
          have h3 := hb.size
          clear A f0 f1 f2
          go_wp2_with fail
          with_reducible refine (HQ.out.c _ hb).mono ?_
          rintro e w4 ⟨rfl, b4⟩
          have b4 := hb.trans (b4.mono hb.size)
          clear hb cv
          go_wp2_with fail
          with_reducible refine (HQ.out.rc _ b4).mono ?_
          rintro e w5 ⟨rfl, b5⟩
          have b5 := b4.trans (b5.mono b4.size)
          clear b4
          go_wp2_with fail
          with_reducible refine (HQ.out.a _ b5).mono ?_
          rintro e w6 ⟨rfl, b6⟩
          have b6 := b5.trans (b6.mono b5.size)
          have b6a : Below W3.heap.size W3 (w6.alloc (.cells #[.int .i64 x0, .int .i64 x1] 36)) := b6.alloc b6.size _
          clear b5
          go_wp2_with fail
          with_reducible refine (HQ.out.ra _ b6a).mono ?_
          rintro e w7 ⟨rfl, b7⟩
          have u0 : w7.cell? ⟨w6.heap.size, 0, none⟩ = some (.int .i64 x0) := (b7.cell (p := ⟨w6.heap.size, 0, none⟩) (by simp)).trans (by simp [go_sem])
          have u1 : w7.cell? ⟨w6.heap.size, 1, none⟩ = some (.int .i64 x1) := (b7.cell (p := ⟨w6.heap.size, 1, none⟩) (by simp)).trans (by simp [go_sem])
          have s7 : w6.heap.size < w7.heap.size := by have := b7.size; simp at this; omega
          have q7 := b6a.trans (b7.mono b6a.size)
          have q7a : Below W3.heap.size W3 (w7.alloc (.cells #[.int .i64 x0, .int .i64 x1] 36)) := q7.alloc q7.size _
          clear b6 b6a b7 q7
          go_wp2_with fail
          with_reducible refine (HQ.out.d _ q7a).mono ?_
          rintro e w8 ⟨rfl, b8⟩
          have q8 := q7a.trans (b8.mono q7a.size)
          clear b8 q7a u0 u1
          go_wp2_with fail
          with_reducible refine (HQ.out.rd _ q8).mono ?_
          rintro e w9 ⟨rfl, b9⟩
          have HQ9 := hide (q8.trans (b9.mono q8.size))
          clear b9 q8
          go_wp2
          go_roundw
          case rel => exact ⟨j + 1, by omega, by go_num, HQ9.out⟩
          case measure => (simp [intOf]) <;> omega
        · obtain rfl : j = 2 := by omega
          have HBB := hide hb
          clear hb
          go_wp2
          go_roundw
          case rel => exact ⟨k + 1, by omega, by go_num, HK3.out.step HBB.out (by have := HK3.out.size; omega)⟩
          case measure => (simp [intOf]) <;> omega
    · obtain rfl : k = m := by omega
      have CX := hide (CW.out wr hbw)
      have HBR := hide hbw
      clear hkp hbw
      go_wp2_with fail
      refine CX.out.mono ?_
      rintro e w5 ⟨rfl, b5⟩
      have HF := hide (HBR.out.trans (b5.mono HBR.out.size))
      clear b5
      go_wp2
      go_ret
      exact ⟨rfl, HF.out⟩
set_option maxRecDepth 100000 in
set_option maxHeartbeats 12800000 in
theorem LeapvoteRuns_main (n : Int) (a : Option Addr) (m cap : Nat) (K I U : Nat → Int) (u : Int) (w : World) (hr : OpsAt w a m K I U) (hm : m ≤ 100) (hn : 1 ≤ n ∧ n ≤ 12) (l : Laid w) :
    Calls Tryd.prog 3 #[.int .i64 n, .slice a m cap, .int .i64 u] w fun e w' => e = .returned (.bool true) ∧ Below w.heap.size w w' := by
  have hq : (m : Int) ≤ 100 := by omega
  have hl := l.lt
  have HR := hide hr
  have HL := hide l
  have CW := hide (fun W (b : Below w.heap.size w W) => awake_any W (l.step b))
  have C1 := hide (PNew_ok n w hn.1 hn.2)
  have C2 := hide (fun W => RNew_ok n W hn.1 hn.2)
  have HI0 := hide (Inv.new hn.1 hn.2)
  clear hr l hn
  go_enter Tryd.func3, Tryd.ntmps3
  go_wp2_with fail
  refine C1.out.mono ?_
  rintro e w1 ⟨gp, rfl, hgp, hp, b1⟩
  have hpl := hp.lt
  have HP := hide hp
  have HB := hide b1
  clear hp b1
  go_wp2_with fail
  refine (C2.out _).mono ?_
  rintro e W0 ⟨gr, rfl, hgr, hrr, b2⟩
  have hrl := hrr.lt
  have hs1 := HB.out.size
  have hs2 := b2.size
  have HBW := hide (HB.out.trans (b2.mono hs1))
  have HP0 := hide (HP.out.step b2)
  have HR0 := hide hrr
  clear hrr b2 HP HB C1 C2
  go_wp2_with fail
  go_loopw [38] (fun i wr => ∃ (k : Nat) (s : Vt), k ≤ m ∧ i = .int .i64 k ∧ Kp (fun x => x = gp ∨ x = gr) W0.heap.size W0 wr ∧ PAt wr gp s ∧ RAt wr gr s ∧ Inv s) (fun i _ => m - (intOf i).toNat)
  case atStart => exact ⟨0, .new n, by omega, rfl, Kp.refl _ _ _, HP0.out, HR0.out, HI0.out⟩
  case round =>
    clear HP0 HR0 HI0
    obtain ⟨k, s, hk, rfl, hkp, hp, hrr, hi⟩ := hrel
    have hsz := hkp.size
    have hwz := HBW.out.size
    have hbw : Below w.heap.size w wr := kp_fin HBW.out hkp (by intro q hq; first | exact absurd hq id | (rcases hq with rfl | rfl <;> omega))
    by_cases hlt : k < m
    · obtain ⟨b, off, rfl, hbl, hc⟩ := HR.out.2 (by omega)
      obtain ⟨c0, c1, c2⟩ := ops_cell HBW.out hbl hwz (by first | exact id | omega) (hc k hlt) wr hkp
      have hlt2 : (k : Int) < (m : Int) := by omega
      have hbq : b < wr.heap.size := by omega
      obtain ⟨x, hx⟩ : ∃ x, x = K k := ⟨_, rfl⟩
      obtain ⟨y, hy⟩ : ∃ x, x = I k := ⟨_, rfl⟩
      obtain ⟨z, hz⟩ : ∃ x, x = U k := ⟨_, rfl⟩
      rw [← hx] at c0
      rw [← hy] at c1
      rw [← hz] at c2
      clear hx hy hz hc
      obtain ⟨W1, hW1⟩ : ∃ W1, W1 = wr.alloc (.cells #[.int .i64 x, .int .i64 y, .int .i64 z] 29) := ⟨_, rfl⟩
      have g1 : Below wr.heap.size wr W1 := by rw [hW1]; exact (Below.refl _ _).alloc (Nat.le_refl _) _
      have z1 : W1.heap.size = wr.heap.size + 1 := by rw [hW1]; simp
      have d0 : W1.cell? ⟨wr.heap.size, 0, none⟩ = some (.int .i64 x) := by rw [hW1]; simp [go_sem]
      have d1 : W1.cell? ⟨wr.heap.size, 1, none⟩ = some (.int .i64 y) := by rw [hW1]; simp [go_sem]
      have d2 : W1.cell? ⟨wr.heap.size, 2, none⟩ = some (.int .i64 z) := by rw [hW1]; simp [go_sem]
      have HW1 := hide hW1
      have HG1 := hide g1
      have HKP := hide hkp
      have HBR := hide hbw
      have hp1 := hp.step g1
      have hr1 := hrr.step g1
      have hgpb : gp < wr.heap.size := hp.lt
      have hgrb : gr < wr.heap.size := hrr.lt
      have hne : gp ≠ gr := by omega
      have CP := hide (fun W sr (h : Half W1 gp gr s sr W) => half_p (k := x) (i := y) (u := z) h hi hne)
      have CR := hide (fun W sp (h : Half W1 gp gr sp s W) => half_r (k := x) (i := y) (u := z) h hi hne)
      have HI := hide (hi.next x y z)
      have hhd : Half W1 gp gr s s W1.drew := ⟨(Kp.refl _ _ _).drew, hp1, hr1⟩
      obtain ⟨e0, he0⟩ : ∃ e, e = vErr s x y z := ⟨_, rfl⟩
      obtain ⟨s1, hs1'⟩ : ∃ e, e = s.next x y z := ⟨_, rfl⟩
      rw [← he0, ← hs1'] at CP CR
      rw [← hs1'] at HI
      clear hW1 g1 hkp hbw hp hrr hi he0 hs1' hp1 hr1
      go_upto_region 9 with fail
      rw [← HW1.out]
      have HD := hide (fun V sp sr (q : Half W1 gp gr sp sr V) => And.intro ((q.1.cell (k := wr.heap.size) (o := 0) (by omega) (by omega)).trans d0) (And.intro ((q.1.cell (k := wr.heap.size) (o := 1) (by omega) (by omega)).trans d1) ((q.1.cell (k := wr.heap.size) (o := 2) (by omega) (by omega)).trans d2)))
      go_cut [58] (fun c wx => c = .bool false ∧ Half W1 gp gr s1 s1 wx)
      case first =>
        go_region_held3 (fun W => W.cell? ⟨wr.heap.size, 0, none⟩ = some (.int .i64 x) ∧ W.cell? ⟨wr.heap.size, 1, none⟩ = some (.int .i64 y) ∧ W.cell? ⟨wr.heap.size, 2, none⟩ = some (.int .i64 z))
          (first | exact HD.out _ _ _ (by assumption) | exact ⟨d0, d1, d2⟩)
          (first | (go_at_call 11; with_reducible refine (CP.out _ _ (by assumption)).mono ?_; rintro e wp ⟨rfl, hpd⟩)
                 | (go_at_call 12; with_reducible refine (CR.out _ _ (by assumption)).mono ?_; rintro e wq ⟨rfl, hqd⟩))
        all_goals
          go_wp2_with fail
          go_meet
          exact ⟨by first | rfl | simp, by assumption⟩
      obtain ⟨hc1, hh⟩ := hcut
      subst hc1
      obtain ⟨f0, f1, f2⟩ := HD.out _ _ _ hh
      have hz2 : W1.heap.size ≤ wc.heap.size := hh.1.size
      obtain ⟨W2, hW2⟩ : ∃ W2, W2 = wc := ⟨_, rfl⟩
      rw [← hW2] at hh f0 f1 f2 hz2 ⊢
      have HK2 : Hid (Kp (fun x => x = gp ∨ x = gr) W0.heap.size W0 W2) := hide ((HKP.out.step HG1.out (by omega)).trans (hh.1.base (by omega)))
      have HB2 : Hid (Below w.heap.size w W2) := hide (kp_fin HBW.out HK2.out (by intro q hq; rcases hq with rfl | rfl <;> omega))
      have HP2 := hide hh.2.1
      have HR2 := hide hh.2.2
      clear hh hW2 c0 c1 c2 d0 d1 d2 CP CR hhd HD

      obtain ⟨W3, hW3⟩ : ∃ W3, W3 = W2.alloc (.cells #[.int .i64 z, .int .i64 u] 3) := ⟨_, rfl⟩
      have g3 : Below W2.heap.size W2 W3 := by rw [hW3]; exact (Below.refl _ _).alloc (Nat.le_refl _) _
      have z3 : W3.heap.size = W2.heap.size + 1 := by rw [hW3]; simp
      have HLIT := hide (fun W (q : Below W3.heap.size W3 W) j (hj : j < 2) => two_lit (w := W2) (x := z) (y := u) (T := 3) (W := W) (by rw [← hW3, ← z3]; exact q) hj)
      have HK3 := hide (HK2.out.step g3 (by omega))
      have HB3 := hide (HB2.out.trans (g3.mono HB2.out.size))
      have HW3 := hide hW3
      have HP3 := hide (HP2.out.step g3)
      have HR3 := hide (HR2.out.step g3)
      have HA := hide (fun v => asks_any v HP3.out HR3.out HI.out (HL.out.step HB3.out))
      clear hW3 g3
      go_wp2_with fail
      rw [← HW3.out]
      go_loopw [64] (fun i wx => ∃ j : Nat, j ≤ 2 ∧ i = .int .i64 j ∧ Below W3.heap.size W3 wx) (fun i _ => 2 - (intOf i).toNat)
      case atStart => exact ⟨0, by omega, rfl, Below.refl _ _⟩
      case round =>
        obtain ⟨j, hj, rfl, hb⟩ := hrel
        by_cases hlj : j < 2
        · obtain ⟨v, cv⟩ := HLIT.out _ hb j hlj
          have hlj2 : (j : Int) < 2 := by omega
          obtain ⟨c0, c1, c2, x0, x1, bb, d, A⟩ := HA.out v
          have HQ := hide A
          have h3 := hb.size
          clear A f0 f1 f2
          go_wp2_with fail
          with_reducible refine (HQ.out.c _ hb).mono ?_
          rintro e w4 ⟨rfl, b4⟩
          have b4 := hb.trans (b4.mono hb.size)
          clear hb cv
          go_wp2_with fail
          with_reducible refine (HQ.out.rc _ b4).mono ?_
          rintro e w5 ⟨rfl, b5⟩
          have b5 := b4.trans (b5.mono b4.size)
          clear b4
          go_wp2_with fail
          with_reducible refine (HQ.out.a _ b5).mono ?_
          rintro e w6 ⟨rfl, b6⟩
          have b6 := b5.trans (b6.mono b5.size)
          have b6a : Below W3.heap.size W3 (w6.alloc (.cells #[.int .i64 x0, .int .i64 x1] 36)) := b6.alloc b6.size _
          clear b5
          go_wp2_with fail
          with_reducible refine (HQ.out.ra _ b6a).mono ?_
          rintro e w7 ⟨rfl, b7⟩
          have u0 : w7.cell? ⟨w6.heap.size, 0, none⟩ = some (.int .i64 x0) := (b7.cell (p := ⟨w6.heap.size, 0, none⟩) (by simp)).trans (by simp [go_sem])
          have u1 : w7.cell? ⟨w6.heap.size, 1, none⟩ = some (.int .i64 x1) := (b7.cell (p := ⟨w6.heap.size, 1, none⟩) (by simp)).trans (by simp [go_sem])
          have s7 : w6.heap.size < w7.heap.size := by have := b7.size; simp at this; omega
          have q7 := b6a.trans (b7.mono b6a.size)
          have q7a : Below W3.heap.size W3 (w7.alloc (.cells #[.int .i64 x0, .int .i64 x1] 36)) := q7.alloc q7.size _
          clear b6 b6a b7 q7
          go_wp2_with fail
          with_reducible refine (HQ.out.d _ q7a).mono ?_
          rintro e w8 ⟨rfl, b8⟩
          have q8 := q7a.trans (b8.mono q7a.size)
          clear b8 q7a u0 u1
          go_wp2_with fail
          with_reducible refine (HQ.out.rd _ q8).mono ?_
          rintro e w9 ⟨rfl, b9⟩
          have HQ9 := hide (q8.trans (b9.mono q8.size))
          clear b9 q8
          go_wp2
          go_roundw
          case rel => exact ⟨j + 1, by omega, by go_num, HQ9.out⟩
          case measure => (simp [intOf]) <;> omega
        · obtain rfl : j = 2 := by omega
          have HBB := hide hb
          clear hb
          go_wp2
          go_roundw
          case rel => exact ⟨k + 1, s1, by omega, by go_num, HK3.out.step HBB.out (by have := HK3.out.size; omega), HP3.out.step HBB.out, HR3.out.step HBB.out, HI.out⟩
          case measure => (simp [intOf]) <;> omega
    · obtain rfl : k = m := by omega
      have CX := hide (CW.out wr hbw)
      have HBR := hide hbw
      clear hkp hbw hp hrr hi
      go_wp2_with fail
      refine CX.out.mono ?_
      rintro e w5 ⟨rfl, b5⟩
      have HF := hide (HBR.out.trans (b5.mono HBR.out.size))
      clear b5
      go_wp2
      go_ret
      exact ⟨rfl, HF.out⟩
theorem LeapvoteRuns_walk (n : Int) (a : Option Addr) (m cap : Nat) (K I U : Nat → Int) (u : Int) (w : World) (hr : OpsAt w a m K I U) (l : Laid w) :
    Calls Tryd.prog 3 #[.int .i64 n, .slice a m cap, .int .i64 u] w fun e w' => e = .returned (.bool true) ∧ Below w.heap.size w w' := by
  by_cases hm : m ≤ 100
  · by_cases hn : 1 ≤ n ∧ n ≤ 12
    · exact LeapvoteRuns_main n a m cap K I U u w hr hm hn l
    · exact LeapvoteRuns_nil n a m cap K I U u w hr hm hn l
  · exact LeapvoteRuns_long n a m cap u w (by omega) hr.1 l
end Go.Proofs.YtbekfofakpbhiaaDoor.Vot
