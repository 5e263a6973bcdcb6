/- The contracts of layer 7: the reading of an instant, of both. -/
import Derived.Test.YtnnfaejejnfckaaDoorSmrD
namespace Go.Proofs.YtnnfaejejnfckaaDoor.Smr
open Go.RowKit Aid Civ Leap
theorem gone_any (B X : Int) (a : Option Addr) (n cap : Nat) (A O : Nat → Int) (K W t : Int) (p : Nat) (w : World) (hr : Ents w a n A O) (T : Tab B X A O n) (hp : KW K W) (ht : -8000000000000000000 ≤ t ∧ t ≤ 8000000000000000000) (hpn : p ≤ n) (hft : 0 < p → frm K W A O (p - 1) ≤ t) :
    Calls Tryd.prog 34 #[.agg #[.int .i64 B, .int .i64 X, .slice a n cap], .agg #[.int .i64 K, .int .i64 W], .int .i64 p, .int .i64 t] w fun e w' => e = .returned (.tuple #[.int .i64 (if decide (InW (frm K W A O) (W * 1000000000) t p) = true then t - frm K W A O (p - 1) else 0), .bool (decide (InW (frm K W A O) (W * 1000000000) t p))]) ∧ Below w.heap.size w w' := by
  rcases Nat.eq_zero_or_pos p with h | h
  · subst h
    have e : decide (InW (frm K W A O) (W * 1000000000) t 0) = false := decide_eq_false (fun h => absurd h.1 (by omega))
    rw [e]
    exact gone_none B X a n cap K W t w
  · refine gone_some B X a n cap A O K W t p w hr T hp ht h hpn (hft h) _ ?_
    rw [decide_eq_decide]
    exact ⟨fun k => k.2, fun k => ⟨h, k⟩⟩
theorem pol_w {K W : Int} (h : KW K W) : 0 ≤ W ∧ W ≤ 172800 := by unfold KW at h; omega
set_option maxRecDepth 100000 in
set_option maxHeartbeats 3200000 in
theorem read_any (B X : Int) (a : Option Addr) (n cap : Nat) (A O : Nat → Int) (K W t : Int) (w : World) (hr : Ents w a n A O) (T : Tab B X A O n) (hp : KW K W) (ht : -8000000000000000000 ≤ t ∧ t ≤ 8000000000000000000) :
    Calls Tryd.prog 27 #[.agg #[.int .i64 B, .int .i64 X, .slice a n cap], .agg #[.int .i64 K, .int .i64 W], .int .i64 t] w fun e w' => e = .returned (.int .i64 (rd B W O (frm K W A O) (W * 1000000000) n t)) ∧ Below w.heap.size w w' := by
  have P := pol_of T hp
  obtain ⟨W1, W2⟩ := pol_w hp
  have hn := hr.1
  obtain ⟨W0, hW0⟩ : ∃ W0, W0 = (w.alloc (.cells #[.int .i64 B, .int .i64 X, .slice a n cap] 24)).alloc (.cells #[.int .i64 K, .int .i64 W] 26) := ⟨_, rfl⟩
  have HB0 : Hid (Below (w.heap.size + 2) ((w.alloc (.cells #[.int .i64 B, .int .i64 X, .slice a n cap] 24)).alloc (.cells #[.int .i64 K, .int .i64 W] 26)) W0) := hide (by rw [hW0]; exact Below.refl _ _)
  have HH : Hid (W0 = (w.alloc (.cells #[.int .i64 B, .int .i64 X, .slice a n cap] 24)).alloc (.cells #[.int .i64 K, .int .i64 W] 26)) := hide hW0
  have HR := hide (fun V (g : Below W0.heap.size W0 V) => hr.below (boxB2 (low2 HB0.out g)))
  have HK := hide (fun (V : World) (g : Below W0.heap.size W0 V) => by
    obtain ⟨c0, c1, c2, d0, d1, _⟩ := cells5 (low2 HB0.out g)
    exact And.intro c0 (And.intro c1 (And.intro c2 (And.intro d0 (And.intro d1 g)))))
  have HF := hide (fun V (g : Below W0.heap.size W0 V) => boxB2 (low2 HB0.out g))
  obtain ⟨hpn, h1, h2⟩ := plc_spec (frm K W A O) t n
  have CP := hide (based (Nat.le_refl _) fun V (g : Below W0.heap.size W0 V) => place_any B X a n cap A O K W t V (HR.out V g) T hp)
  have CG := hide (based (Nat.le_refl _) fun V (g : Below W0.heap.size W0 V) => gone_any B X a n cap A O K W t (plc (frm K W A O) t n) V (HR.out V g) T hp ht hpn h1)
  have CO := hide (based (Nat.le_refl _) fun V (g : Below W0.heap.size W0 V) => offset_any B X a n cap A O (plc (frm K W A O) t n) V (HR.out V g) hpn)
  have cq : ∀ x : Int, x = ((plc (frm K W A O) t n - 1 : Nat) : Int) → ∀ V, Below W0.heap.size W0 V → Calls Tryd.prog 38 #[.agg #[.int .i64 B, .int .i64 X, .slice a n cap], .int .i64 x] V fun e w' => e = .returned (.int .i64 (offP B O (plc (frm K W A O) t n - 1))) ∧ Below W0.heap.size W0 w' := by
    intro x hx
    subst hx
    exact based (Nat.le_refl _) fun V g => offset_any B X a n cap A O (plc (frm K W A O) t n - 1) V (HR.out V g) (by omega)
  have CQ := hide cq
  clear cq
  have HT := hide T
  have PO := hide P.one
  have PL := P.l
  obtain ⟨ob1, ob2⟩ := offP_bd T.b T.o hpn
  obtain ⟨oc1, oc2⟩ := offP_bd (p := plc (frm K W A O) t n - 1) T.b T.o (by omega)
  have nn64 := T.n64
  unfold rd rdv
  generalize plc (frm K W A O) t n = p at *
  have hb0 := Below.refl W0.heap.size W0
  obtain ⟨t1, t2⟩ := ht
  clear hW0 T hp hr P PL
  by_cases g : InW (frm K W A O) (W * 1000000000) t p
  · rw [if_pos g]
    have e : decide (InW (frm K W A O) (W * 1000000000) t p) = true := decide_eq_true g
    rw [e] at CG
    obtain ⟨g1, g2⟩ := g
    change t < frm K W A O (p - 1) + W * 1000000000 at g2
    generalize frm K W A O (p - 1) = f at *
    have h1' := h1 g1
    have e1 : offP B O p = O (p - 1) := by unfold offP; rw [if_neg (by omega)]
    have hs : offP B O p - offP B O (p - 1) = 1 ∨ offP B O p - offP B O (p - 1) = -1 := by have := PO.out (p - 1) (by omega); omega
    have C1 := hide (CQ.out ((p : Int) - 1) (by omega))
    generalize offP B O p = o1 at *
    generalize offP B O (p - 1) = o0 at *
    have x1 : 0 ≤ t - f := by omega
    have x2 : t - f < W * 1000000000 := by omega
    obtain ⟨d, hd⟩ : ∃ d, d = t - f := ⟨_, rfl⟩
    rw [← hd] at x1 x2 CG
    rw [← hd]
    have hm : -172800000000000 ≤ (o1 - o0) * d ∧ (o1 - o0) * d ≤ 172800000000000 := by rcases hs with h | h <;> rw [h] <;> omega
    obtain ⟨m1, m2⟩ := hm
    have hv : -172800000000000 ≤ (o1 - o0) * d / W ∧ (o1 - o0) * d / W ≤ 172800000000000 := by
      have fb := floor_bd (s := o1 - o0) (x := d) (W := W) hs (by omega) x1 x2
      rcases hs with h | h
      · have := fb.1 h; omega
      · have := fb.2 h; omega
    obtain ⟨u1, u2⟩ := hv
    have w0 : 1 ≤ W := by omega
    have FL := hide (based (Nat.le_refl _) fun V (_ : Below W0.heap.size W0 V) => (Ro.Floor_any ((o1 - o0) * d) W V w0 (by omega) (by omega) (by omega)).mono fun _ w' (h : _ ∧ V = w') => And.intro h.1 (by rw [← h.2]; exact Below.refl _ _))
    have hw1 : IntKind.i64.wrap (o1 - o0) = o1 - o0 := IntWalk.i64_in _ (by omega)
    have hw2 : IntKind.i64.wrap ((o1 - o0) * d) = (o1 - o0) * d := IntWalk.i64_in _ (by omega)
    have hw3 : IntKind.i64.wrap ((p : Int) - 1) = (p : Int) - 1 := IntWalk.i64_in _ (by omega)
    generalize hq : (o1 - o0) * d / W = v at *
    have HQ := hide hq
    clear hq CQ e g2 h1 h2 hd e1 hs h1' x1 x2
    go_enter Tryd.func27, Tryd.ntmps27
    go_wp2_with fail
    rw [← HH.out]
    with_reducible refine (CP.out _ hb0).mono ?_
    rintro e w1 ⟨rfl, b1⟩
    obtain ⟨c0, c1, c2, d0, d1, _⟩ := HK.out _ b1
    go_wp2_with fail
    with_reducible refine (CG.out _ b1).mono ?_
    rintro e w2 ⟨rfl, b2⟩
    clear c0 c1 c2 d0 d1 b1
    obtain ⟨c0, c1, c2, d0, d1, _⟩ := HK.out _ b2
    go_wp2_with fail
    have hne := lt_some W0
    have y0 := fun V : Lt W0 => (HK.out _ V.h).1
    have y1 := fun V : Lt W0 => (HK.out _ V.h).2.1
    have y2 := fun V : Lt W0 => (HK.out _ V.h).2.2.1
    have y3 := fun V : Lt W0 => (HK.out _ V.h).2.2.2.1
    have y4 := fun V : Lt W0 => (HK.out _ V.h).2.2.2.2.1
    refine region_lt W0 (by kernel_rfl) (by kernel_rfl) (by assumption) ?_
    repeat (go_big_quiet_step (first | (go_at_call 38; with_reducible exact call_lt (CO.out _ (Lt.h _))) | (go_at_call 38; with_reducible exact call_lt (C1.out _ (Lt.h _))) | (go_at_call 37; with_reducible exact call_lt (FL.out _ (Lt.h _)))))
    refine wpQuiet_nil ?_
    intro _ hw'
    obtain ⟨V, rfl⟩ := hw'
    clear y0 y1 y2 y3 y4 hne
    all_goals
      have B3 := hide V.h
      have b3 := B3.out
      obtain ⟨c0, c1, c2, d0, d1, _⟩ := HK.out _ b3
      go_wp2_with fail
      with_reducible refine (C1.out _ b3).mono ?_
      rintro e w4 ⟨rfl, b4⟩
      have HF3 := hide (HF.out _ b4)
      clear b3 b4 c0 c1 c2 d0 d1 B3
      go_wp2
      go_ret
      exact ⟨rfl, HF3.out⟩
  · rw [if_neg g]
    have e : decide (InW (frm K W A O) (W * 1000000000) t p) = false := decide_eq_false g
    rw [e] at CG
    generalize frm K W A O (p - 1) = f at *
    clear e g h1 h2 CQ oc1 oc2
    generalize offP B O p = o1 at *
    go_enter Tryd.func27, Tryd.ntmps27
    go_wp2_with fail
    rw [← HH.out]
    with_reducible refine (CP.out _ hb0).mono ?_
    rintro e w1 ⟨rfl, b1⟩
    obtain ⟨c0, c1, c2, d0, d1, _⟩ := HK.out _ b1
    go_wp2_with fail
    with_reducible refine (CG.out _ b1).mono ?_
    rintro e w2 ⟨rfl, b2⟩
    clear c0 c1 c2 d0 d1
    obtain ⟨c0, c1, c2, d0, d1, _⟩ := HK.out _ b2
    go_wp2_with fail
    with_reducible refine (CO.out _ b2).mono ?_
    rintro e w3 ⟨rfl, b3⟩
    have HF3 := hide (HF.out _ b3)
    clear b1 b2 b3 c0 c1 c2 d0 d1
    go_wp2
    go_ret
    exact ⟨rfl, HF3.out⟩
theorem rd_loc {B W : Int} {O F : Nat → Int} {L : Int} {n : Nat} (P : Pol B W O F L n) (t : Int) :
    rd B W O F L n t = if (locV B O F L n t).2.1 = 0 then t - (locV B O F L n t).1 * 1000000000 else t - (locV B O F L n t).1 * 1000000000 - (locV B O F L n t).2.1 * (locV B O F L n t).2.2 / W := by
  unfold rd rdv locV
  obtain ⟨hp, h1, h2⟩ := plc_spec F t n
  generalize plc F t n = p at *
  by_cases g : InW F L t p
  · rw [if_pos g, if_pos g]
    have := P.one (p - 1) (by have := g.1; omega)
    obtain ⟨k, rfl⟩ : ∃ k, p = k + 1 := ⟨p - 1, by have := g.1; omega⟩
    rw [offP_succ]
    rw [Nat.add_sub_cancel] at *
    rw [if_neg (by show ¬ O k - offP B O k = 0; omega)]
  · rw [if_neg g, if_neg g, if_pos rfl]
theorem loc_bd {B W X : Int} {A O : Nat → Int} {n : Nat} (T : Tab B X A O n) {K : Int} (hp : KW K W) (t : Int) :
    (-1000 ≤ (locV B O (frm K W A O) (W * 1000000000) n t).1 ∧ (locV B O (frm K W A O) (W * 1000000000) n t).1 ≤ 1000) ∧ ((locV B O (frm K W A O) (W * 1000000000) n t).2.1 = 0 ∨ (((locV B O (frm K W A O) (W * 1000000000) n t).2.1 = 1 ∨ (locV B O (frm K W A O) (W * 1000000000) n t).2.1 = -1) ∧ 1 ≤ W ∧ 0 ≤ (locV B O (frm K W A O) (W * 1000000000) n t).2.2 ∧ (locV B O (frm K W A O) (W * 1000000000) n t).2.2 < W * 1000000000)) := by
  obtain ⟨hq, h1, h2⟩ := plc_spec (frm K W A O) t n
  unfold locV
  have o := pol_of T hp
  generalize frm K W A O = F at *
  generalize plc F t n = p at *
  by_cases g : InW F (W * 1000000000) t p
  · rw [if_pos g]
    obtain ⟨g1, g2⟩ := g
    obtain ⟨k, rfl⟩ : ∃ k, p = k + 1 := ⟨p - 1, by omega⟩
    rw [offP_succ]
    rw [Nat.add_sub_cancel] at *
    have := o.one k hq
    have := h1 g1
    have hw := o.w
    refine ⟨offP_bd T.b T.o (by omega), .inr ⟨?_, ?_, ?_, ?_⟩⟩
    · show O k - offP B O k = 1 ∨ O k - offP B O k = -1; omega
    · omega
    · show 0 ≤ t - F k; omega
    · show t - F k < _; omega
  · rw [if_neg g]
    exact ⟨offP_bd T.b T.o hq, .inl rfl⟩
set_option maxRecDepth 100000 in
set_option maxHeartbeats 3200000 in
theorem reading_any (B X : Int) (a : Option Addr) (n cap : Nat) (A O : Nat → Int) (K W t : Int) (w : World) (hr : Ents w a n A O) (T : Tab B X A O n) (hp : KW K W) (ht : -8000000000000000000 ≤ t ∧ t ≤ 8000000000000000000) :
    Calls Tryd.prog 25 #[.agg #[.int .i64 B, .int .i64 X, .slice a n cap], .agg #[.int .i64 K, .int .i64 W], .int .i64 t] w fun e w' => e = .returned (.int .i64 (rd B W O (frm K W A O) (W * 1000000000) n t)) ∧ Below w.heap.size w w' := by
  have b := bb2 (w := w) (.cells #[.int .i64 B, .int .i64 X, .slice a n cap] 24) (.cells #[.int .i64 K, .int .i64 W] 26)
  have CL := hide (locate_any B X a n cap A O K W t _ (hr.below b) T hp ht)
  have LW := hide fun W' => low2 (w := w) (a := .cells #[.int .i64 B, .int .i64 X, .slice a n cap] 24) (b := .cells #[.int .i64 K, .int .i64 W] 26) (W := (w.alloc (.cells #[.int .i64 B, .int .i64 X, .slice a n cap] 24)).alloc (.cells #[.int .i64 K, .int .i64 W] 26)) (W' := W') (Below.refl _ _)
  rw [rd_loc (pol_of T hp) t]
  obtain ⟨⟨l1, l2⟩, hd⟩ := loc_bd T hp t
  obtain ⟨w1, w2⟩ := pol_w hp
  obtain ⟨t1, t2⟩ := ht
  generalize (locV B O (frm K W A O) (W * 1000000000) n t).1 = x at *
  generalize (locV B O (frm K W A O) (W * 1000000000) n t).2.1 = y at *
  generalize (locV B O (frm K W A O) (W * 1000000000) n t).2.2 = z at *
  clear hr T hp b
  rcases hd with rfl | ⟨hy, v1, v2, v3⟩
  · rw [if_pos rfl]
    go_enter Tryd.func25, Tryd.ntmps25
    go_wp2_with fail
    refine CL.out.mono ?_
    rintro e w' ⟨rfl, h⟩
    have hb := boxB2 (LW.out _ h)
    have HB := hide (hb.alloc hb.size (.cells #[.int .i64 x, .int .i64 0, .int .i64 z] 48))
    clear h hb
    go_wp2
    go_ret
    exact ⟨rfl, HB.out⟩
  · have hy0 : (y != 0) = true := by rcases hy with rfl | rfl <;> rfl
    have hm : -172800000000000 ≤ y * z ∧ y * z ≤ 172800000000000 := by rcases hy with rfl | rfl <;> omega
    obtain ⟨m1, m2⟩ := hm
    have FL := hide fun V => Fx.Floor_any (y * z) W V v1 (by omega) (by omega)
    have hv : -172800000000000 ≤ y * z / W ∧ y * z / W ≤ 172800000000000 := by
      have fb := floor_bd (s := y) (x := z) (W := W) hy v1 v2 v3
      rcases hy with rfl | rfl
      · have := fb.1 rfl; omega
      · have := fb.2 rfl; omega
    obtain ⟨u1, u2⟩ := hv
    rw [if_neg (by rcases hy with rfl | rfl <;> omega)]
    have hw : IntKind.i64.wrap (y * z) = y * z := IntWalk.i64_in _ (by omega)
    generalize hq : y * z / W = v at *
    have HQ := hide hq
    clear hy hq
    go_enter Tryd.func25, Tryd.ntmps25
    go_wp2_with fail
    refine CL.out.mono ?_
    rintro e w' ⟨rfl, h⟩
    have hb := boxB2 (LW.out _ h)
    obtain ⟨_, _, _, _, d1, hs⟩ := cells5 (LW.out _ h)
    have hs2 : w.heap.size + 1 < w'.heap.size := by omega
    have HB := hide (hb.alloc hb.size (.cells #[.int .i64 x, .int .i64 y, .int .i64 z] 48))
    clear h hb hs
    go_wp2_with fail
    refine (FL.out _).mono ?_
    rintro e w2 ⟨rfl, m, rfl⟩
    go_wp2
    go_ret
    exact ⟨rfl, below_drewN HB.out m⟩
end Go.Proofs.YtnnfaejejnfckaaDoor.Smr
