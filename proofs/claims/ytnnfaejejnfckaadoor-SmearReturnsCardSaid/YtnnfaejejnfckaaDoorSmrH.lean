/- The contracts of layer 7: Rate of both. -/
import Derived.Test.YtnnfaejejnfckaaDoorSmrG
namespace Go.Proofs.YtnnfaejejnfckaaDoor.Smr
open Go.RowKit Aid Civ Leap
noncomputable def rateT (B X : Int) (A O : Nat → Int) (n : Nat) (K W t : Int) : Int := if actB (chkS B X A O n K W) t (inT A O n K W t) = true then (-(stepT B A O n K W t) * 1000000000) / W else 0
theorem act_elim {c t : Int} {g : Bool} (h : actB c t g = true) : c = 0 ∧ instB t = true ∧ g = true := by
  unfold actB at h
  simp only [Bool.and_eq_true, decide_eq_true_eq] at h
  exact ⟨h.1.1, h.1.2, h.2⟩
theorem quo_bd {y W : Int} (hW : 1 ≤ W) (h : y = 1 ∨ y = -1) : -1000000000 ≤ -y * 1000000000 / W ∧ -y * 1000000000 / W ≤ 1000000000 := by
  rcases h with rfl | rfl
  · refine ⟨Int.le_ediv_of_mul_le (by omega) (by omega), ?_⟩
    have := Int.ediv_le_ediv (c := W) (by omega) (show -1 * 1000000000 ≤ 0 by omega)
    rw [Int.zero_ediv] at this
    omega
  · refine ⟨?_, Int.ediv_le_of_le_mul (by omega) (by omega)⟩
    have := Int.ediv_nonneg (a := - -1 * 1000000000) (b := W) (by omega) (by omega)
    omega
set_option maxRecDepth 100000 in
set_option maxHeartbeats 3200000 in
theorem Rate_any (B X : Int) (a : Option Addr) (n cap : Nat) (A O : Nat → Int) (K W t : Int) (w : World) (l : Laid w) (hr : Ents w a n A O) :
    Calls Tryd.prog 20 #[.agg #[.int .i64 B, .int .i64 X, .slice a n cap], .agg #[.int .i64 K, .int .i64 W], .int .i64 t] w fun e w' => e = .returned (.int .i64 (rateT B X A O n K W t)) ∧ Below w.heap.size w w' := by
  obtain ⟨W0, hW0⟩ : ∃ W0, W0 = (w.alloc (.cells #[.int .i64 B, .int .i64 X, .slice a n cap] 24)).alloc (.cells #[.int .i64 K, .int .i64 W] 26) := ⟨_, rfl⟩
  have HB0 : Hid (Below (w.heap.size + 2) ((w.alloc (.cells #[.int .i64 B, .int .i64 X, .slice a n cap] 24)).alloc (.cells #[.int .i64 K, .int .i64 W] 26)) W0) := hide (by rw [hW0]; exact Below.refl _ _)
  have HH : Hid (W0 = (w.alloc (.cells #[.int .i64 B, .int .i64 X, .slice a n cap] 24)).alloc (.cells #[.int .i64 K, .int .i64 W] 26)) := hide hW0
  have HR := hide (fun V (g : Below W0.heap.size W0 V) => hr.below (boxB2 (low2 HB0.out g)))
  have HK := hide (fun (V : World) (g : Below W0.heap.size W0 V) => by
    obtain ⟨c0, c1, c2, d0, d1, _⟩ := cells5 (low2 HB0.out g)
    exact And.intro c0 (And.intro c1 (And.intro c2 (And.intro d0 (And.intro d1 g)))))
  have HF := hide (fun V (g : Below W0.heap.size W0 V) => boxB2 (low2 HB0.out g))
  have hb0 := Below.refl W0.heap.size W0
  have LL := hide (fun V (g : Below W0.heap.size W0 V) => l.step (HF.out V g))
  have CA := hide (based (Nat.le_refl _) fun V (g : Below W0.heap.size W0 V) => Active_any B X a n cap A O K W t V (LL.out V g) (HR.out V g))
  unfold rateT
  clear hW0
  have HE := hide (fun (h : actB (chkS B X A O n K W) t (inT A O n K W t) = true) => act_elim h)
  cases ha : actB (chkS B X A O n K W) t (inT A O n K W t) with
  | false =>
    rw [ha] at CA
    rw [if_neg (by simp)]
    clear HE ha hr l
    go_enter Tryd.func20, Tryd.ntmps20
    go_wp2_with fail
    rw [← HH.out]
    with_reducible refine (CA.out _ hb0).mono ?_
    rintro e w1 ⟨rfl, b1⟩
    have HFF := hide (HF.out _ b1)
    obtain ⟨c0, c1, c2, d0, d1, _⟩ := HK.out _ b1
    clear b1
    go_wp2
    go_ret
    exact ⟨rfl, HFF.out⟩
  | true =>
    rw [ha] at CA
    rw [if_pos rfl]
    obtain ⟨z1, z2, z3⟩ := HE.out ha
    obtain ⟨T, hp⟩ := chkS_ok z1
    obtain ⟨t1, t2⟩ := instB_iff.1 z2
    have hb := loc_bd T hp t
    have CL := hide (based (Nat.le_refl _) fun V (g : Below W0.heap.size W0 V) => locate_any B X a n cap A O K W t V (HR.out V g) T hp ⟨t1, t2⟩)
    have hs := step_in T hp t
    rw [z3] at hs
    unfold stepT at *
    generalize (locV B O (frm K W A O) (W * 1000000000) n t).1 = x at *
    generalize (locV B O (frm K W A O) (W * 1000000000) n t).2.1 = y at *
    generalize (locV B O (frm K W A O) (W * 1000000000) n t).2.2 = z at *
    obtain ⟨hy, w0⟩ : (y = 1 ∨ y = -1) ∧ 1 ≤ W := by
      rcases hb.2 with h | h
      · subst h; simp at hs
      · exact ⟨h.1, h.2.1⟩
    obtain ⟨u1, u2⟩ := quo_bd w0 hy
    obtain ⟨v1, v2⟩ : -1 ≤ y ∧ y ≤ 1 := by omega
    have hw1 : IntKind.i64.wrap (-y) = -y := IntWalk.i64_in _ (by omega)
    have hw2 : IntKind.i64.wrap (-y * 1000000000) = -y * 1000000000 := IntWalk.i64_in _ (by omega)
    have FL := hide (based (Nat.le_refl _) fun V (_ : Below W0.heap.size W0 V) => (Fx.Floor_any (-y * 1000000000) W V w0 (by omega) (by omega)).mono fun _ w' h => And.intro h.1 (by obtain ⟨m, hm⟩ := h.2; rw [hm]; exact below_drewN (Below.refl _ _) m))
    generalize hq : -y * 1000000000 / W = v at *
    have HQ := hide hq
    have hfd : ∀ V : World, (Instr.field 48 (.agg #[.int .i64 x, .int .i64 y, .int .i64 z]) 1).run Tryd.prog V = .ok (.int .i64 y) V := fun _ => by kernel_rfl
    clear hq hb hs hy hr T hp ha z1 z2 z3 HE
    go_enter Tryd.func20, Tryd.ntmps20
    go_wp2_with fail
    rw [← HH.out]
    with_reducible refine (CA.out _ hb0).mono ?_
    rintro e w1 ⟨rfl, b1⟩
    obtain ⟨c0, c1, c2, d0, d1, _⟩ := HK.out _ b1
    go_wp2_with fail
    have hne := lt_some W0
    have y0 := fun V : Lt W0 => (HK.out _ V.h).1
    have y1 := fun V : Lt W0 => (HK.out _ V.h).2.1
    have y2 := fun V : Lt W0 => (HK.out _ V.h).2.2.1
    have y3 := fun V : Lt W0 => (HK.out _ V.h).2.2.2.1
    have y4 := fun V : Lt W0 => (HK.out _ V.h).2.2.2.2.1
    refine region_lt W0 (by kernel_rfl) (by kernel_rfl) (by assumption) ?_
    repeat (first | go_big_quiet_step (first | (go_at_call 33; with_reducible exact call_lt (CL.out _ (Lt.h _))) | (go_at_call 36; with_reducible exact call_lt (FL.out _ (Lt.h _)))) | quiet_step (first | (go_at_call 33; with_reducible exact call_lt (CL.out _ (Lt.h _))) | (go_at_call 36; with_reducible exact call_lt (FL.out _ (Lt.h _)))))
    refine wpQuiet_nil ?_
    intro _ hw'
    obtain ⟨V, rfl⟩ := hw'
    clear y0 y1 y2 y3 y4 hne
    have b2 := V.h
    clear c0 c1 c2 d0 d1
    have HFF := hide (HF.out _ b2)
    obtain ⟨c0, c1, c2, d0, d1, _⟩ := HK.out _ b2
    clear b1 b2
    go_wp2
    go_ret
    exact ⟨rfl, HFF.out⟩
set_option maxRecDepth 100000 in
set_option maxHeartbeats 3200000 in
theorem RRate_any (B X : Int) (a : Option Addr) (n cap : Nat) (A O : Nat → Int) (K W t : Int) (w : World) (hr : Ents w a n A O) :
    Calls Tryd.prog 21 #[.agg #[.int .i64 B, .int .i64 X, .slice a n cap], .agg #[.int .i64 K, .int .i64 W], .int .i64 t] w fun e w' => e = .returned (.int .i64 (rateT B X A O n K W t)) ∧ Below w.heap.size w w' := by
  obtain ⟨W0, hW0⟩ : ∃ W0, W0 = (w.alloc (.cells #[.int .i64 B, .int .i64 X, .slice a n cap] 24)).alloc (.cells #[.int .i64 K, .int .i64 W] 26) := ⟨_, rfl⟩
  have HB0 : Hid (Below (w.heap.size + 2) ((w.alloc (.cells #[.int .i64 B, .int .i64 X, .slice a n cap] 24)).alloc (.cells #[.int .i64 K, .int .i64 W] 26)) W0) := hide (by rw [hW0]; exact Below.refl _ _)
  have HH : Hid (W0 = (w.alloc (.cells #[.int .i64 B, .int .i64 X, .slice a n cap] 24)).alloc (.cells #[.int .i64 K, .int .i64 W] 26)) := hide hW0
  have HR := hide (fun V (g : Below W0.heap.size W0 V) => hr.below (boxB2 (low2 HB0.out g)))
  have HK := hide (fun (V : World) (g : Below W0.heap.size W0 V) => by
    obtain ⟨c0, c1, c2, d0, d1, _⟩ := cells5 (low2 HB0.out g)
    exact And.intro c0 (And.intro c1 (And.intro c2 (And.intro d0 (And.intro d1 g)))))
  have HF := hide (fun V (g : Below W0.heap.size W0 V) => boxB2 (low2 HB0.out g))
  have hb0 := Below.refl W0.heap.size W0
  have CA := hide (based (Nat.le_refl _) fun V (g : Below W0.heap.size W0 V) => RActive_any B X a n cap A O K W t V (HR.out V g))
  unfold rateT
  clear hW0
  have HE := hide (fun (h : actB (chkS B X A O n K W) t (inT A O n K W t) = true) => act_elim h)
  cases ha : actB (chkS B X A O n K W) t (inT A O n K W t) with
  | false =>
    rw [ha] at CA
    rw [if_neg (by simp)]
    clear HE ha hr
    go_enter Tryd.func21, Tryd.ntmps21
    go_wp2_with fail
    rw [← HH.out]
    with_reducible refine (CA.out _ hb0).mono ?_
    rintro e w1 ⟨rfl, b1⟩
    have HFF := hide (HF.out _ b1)
    obtain ⟨c0, c1, c2, d0, d1, _⟩ := HK.out _ b1
    clear b1
    go_wp2
    go_ret
    exact ⟨rfl, HFF.out⟩
  | true =>
    rw [ha] at CA
    rw [if_pos rfl]
    obtain ⟨z1, z2, z3⟩ := HE.out ha
    obtain ⟨T, hp⟩ := chkS_ok z1
    obtain ⟨t1, t2⟩ := instB_iff.1 z2
    have hb := loc_bd T hp t
    have hs := step_in T hp t
    rw [z3] at hs
    obtain ⟨hpn, p1, p2⟩ := plc_spec (frm K W A O) t n
    have CP := hide (based (Nat.le_refl _) fun V (g : Below W0.heap.size W0 V) => place_any B X a n cap A O K W t V (HR.out V g) T hp)
    have nn64 := T.n64
    obtain ⟨w170, w172⟩ := pol_w hp
    have hin : InW (frm K W A O) (W * 1000000000) t (plc (frm K W A O) t n) := by unfold inT at z3; exact of_decide_eq_true z3
    have est : stepT B A O n K W t = offP B O (plc (frm K W A O) t n) - offP B O (plc (frm K W A O) t n - 1) := by unfold stepT locV; rw [if_pos hin]
    obtain ⟨hy, w0⟩ : (stepT B A O n K W t = 1 ∨ stepT B A O n K W t = -1) ∧ 1 ≤ W := by
      rcases hb.2 with h | h
      · have : stepT B A O n K W t = 0 := h
        rw [this] at hs; simp at hs
      · exact ⟨h.1, h.2.1⟩
    have CO := hide (based (Nat.le_refl _) fun V (g : Below W0.heap.size W0 V) => offset_any B X a n cap A O (plc (frm K W A O) t n) V (HR.out V g) hpn)
    have cq : ∀ x : Int, x = ((plc (frm K W A O) t n - 1 : Nat) : Int) → ∀ V, Below W0.heap.size W0 V → Calls Tryd.prog 38 #[.agg #[.int .i64 B, .int .i64 X, .slice a n cap], .int .i64 x] V fun e w' => e = .returned (.int .i64 (offP B O (plc (frm K W A O) t n - 1))) ∧ Below W0.heap.size W0 w' := by
      intro x hx
      subst hx
      exact based (Nat.le_refl _) fun V g => offset_any B X a n cap A O (plc (frm K W A O) t n - 1) V (HR.out V g) (by omega)
    obtain ⟨g1, _⟩ := hin
    obtain ⟨ob1, ob2⟩ := offP_bd T.b T.o hpn
    obtain ⟨oc1, oc2⟩ := offP_bd (p := plc (frm K W A O) t n - 1) T.b T.o (by omega)
    have C1 := hide (cq ((plc (frm K W A O) t n : Int) - 1) (by omega))
    obtain ⟨u1, u2⟩ := quo_bd w0 hy
    rw [est] at *
    clear hb hs hr T hp ha z1 z2 z3 HE cq est p1 p2
    generalize plc (frm K W A O) t n = p at *
    generalize offP B O p = o1 at *
    generalize offP B O (p - 1) = o0 at *
    rw [show -(o1 - o0) = o0 - o1 by omega] at *
    obtain ⟨v1, v2⟩ : -1 ≤ o0 - o1 ∧ o0 - o1 ≤ 1 := by omega
    have hw1 : IntKind.i64.wrap (o0 - o1) = o0 - o1 := IntWalk.i64_in _ (by omega)
    have hw2 : IntKind.i64.wrap ((o0 - o1) * 1000000000) = (o0 - o1) * 1000000000 := IntWalk.i64_in _ (by omega)
    have hw3 : IntKind.i64.wrap ((p : Int) - 1) = (p : Int) - 1 := IntWalk.i64_in _ (by omega)
    have FL := hide (based (Nat.le_refl _) fun V (_ : Below W0.heap.size W0 V) => (Ro.Floor_any ((o0 - o1) * 1000000000) W V w0 (by omega) (by omega) (by omega)).mono fun _ w' (h : _ ∧ V = w') => And.intro h.1 (by rw [← h.2]; exact Below.refl _ _))
    generalize hq : (o0 - o1) * 1000000000 / W = v at *
    have HQ := hide hq
    clear hq hy
    go_enter Tryd.func21, Tryd.ntmps21
    go_wp2_with fail
    rw [← HH.out]
    with_reducible refine (CA.out _ hb0).mono ?_
    rintro e w1 ⟨rfl, b1⟩
    obtain ⟨c0, c1, c2, d0, d1, _⟩ := HK.out _ b1
    go_wp2_with fail
    with_reducible refine (CP.out _ b1).mono ?_
    rintro e w2 ⟨rfl, b2⟩
    clear c0 c1 c2 d0 d1
    obtain ⟨c0, c1, c2, d0, d1, _⟩ := HK.out _ b2
    go_wp2_with fail
    have hne := lt_some W0
    have y0 := fun V : Lt W0 => (HK.out _ V.h).1
    have y1 := fun V : Lt W0 => (HK.out _ V.h).2.1
    have y2 := fun V : Lt W0 => (HK.out _ V.h).2.2.1
    have y3 := fun V : Lt W0 => (HK.out _ V.h).2.2.2.1
    have y4 := fun V : Lt W0 => (HK.out _ V.h).2.2.2.2.1
    refine region_lt W0 (by kernel_rfl) (by kernel_rfl) (by assumption) ?_
    repeat (first | go_big_quiet_step (first | (go_at_call 38; with_reducible exact call_lt (CO.out _ (Lt.h _))) | (go_at_call 38; with_reducible exact call_lt (C1.out _ (Lt.h _))) | (go_at_call 37; with_reducible exact call_lt (FL.out _ (Lt.h _)))) | quiet_step (first | (go_at_call 38; with_reducible exact call_lt (CO.out _ (Lt.h _))) | (go_at_call 38; with_reducible exact call_lt (C1.out _ (Lt.h _))) | (go_at_call 37; with_reducible exact call_lt (FL.out _ (Lt.h _)))))
    refine wpQuiet_nil ?_
    intro _ hw'
    obtain ⟨V, rfl⟩ := hw'
    clear y0 y1 y2 y3 y4 hne
    have b3 := V.h
    clear c0 c1 c2 d0 d1
    have HFF := hide (HF.out _ b3)
    obtain ⟨c0, c1, c2, d0, d1, _⟩ := HK.out _ b3
    clear b1 b2 b3
    go_wp2
    go_ret
    exact ⟨rfl, HFF.out⟩
end Go.Proofs.YtnnfaejejnfckaaDoor.Smr
