/- The contracts of layer 7: Active of both. -/
import Derived.Test.YtnnfaejejnfckaaDoorSmrF
namespace Go.Proofs.YtnnfaejejnfckaaDoor.Smr
open Go.RowKit Aid Civ Leap
def actB (c t : Int) (g : Bool) : Bool := decide (c = 0) && instB t && g
noncomputable def inT (A O : Nat → Int) (n : Nat) (K W t : Int) : Bool := decide (InW (frm K W A O) (W * 1000000000) t (plc (frm K W A O) t n))
noncomputable def stepT (B : Int) (A O : Nat → Int) (n : Nat) (K W t : Int) : Int := (locV B O (frm K W A O) (W * 1000000000) n t).2.1
theorem act_ways (c t : Int) (g : Bool) : ((c != 0) = true ∧ c ≠ 0 ∧ actB c t g = false) ∨ (c = 0 ∧ instB t = false ∧ actB c t g = false) ∨ (c = 0 ∧ instB t = true ∧ actB c t g = g) := by
  unfold actB
  by_cases h : c = 0
  · subst h
    cases h1 : instB t <;> simp
  · exact .inl ⟨by simpa using h, h, by simp [h]⟩
theorem step_in {B X : Int} {A O : Nat → Int} {n : Nat} (T : Tab B X A O n) {K W : Int} (hp : KW K W) (t : Int) : (stepT B A O n K W t != 0) = inT A O n K W t := by
  have P := pol_of T hp
  unfold stepT inT locV
  obtain ⟨hq, h1, h2⟩ := plc_spec (frm K W A O) t n
  generalize frm K W A O = F at *
  generalize plc F t n = p at *
  by_cases g : InW F (W * 1000000000) t p
  · rw [if_pos g, decide_eq_true g]
    have := P.one (p - 1) (by have := g.1; omega)
    obtain ⟨k, rfl⟩ : ∃ k, p = k + 1 := ⟨p - 1, by have := g.1; omega⟩
    rw [offP_succ]
    rw [Nat.add_sub_cancel] at *
    have : O k - offP B O k ≠ 0 := by omega
    simpa using this
  · rw [if_neg g, decide_eq_false g]
    rfl
set_option maxRecDepth 100000 in
set_option maxHeartbeats 3200000 in
theorem Active_any (B X : Int) (a : Option Addr) (n cap : Nat) (A O : Nat → Int) (K W t : Int) (w : World) (l : Laid w) (hr : Ents w a n A O) :
    Calls Tryd.prog 18 #[.agg #[.int .i64 B, .int .i64 X, .slice a n cap], .agg #[.int .i64 K, .int .i64 W], .int .i64 t] w fun e w' => e = .returned (.bool (actB (chkS B X A O n K W) t (inT A O n K W t))) ∧ Below w.heap.size w w' := by
  obtain ⟨W0, hW0⟩ : ∃ W0, W0 = (w.alloc (.cells #[.int .i64 B, .int .i64 X, .slice a n cap] 24)).alloc (.cells #[.int .i64 K, .int .i64 W] 26) := ⟨_, rfl⟩
  have HB0 : Hid (Below (w.heap.size + 2) ((w.alloc (.cells #[.int .i64 B, .int .i64 X, .slice a n cap] 24)).alloc (.cells #[.int .i64 K, .int .i64 W] 26)) W0) := hide (by rw [hW0]; exact Below.refl _ _)
  have HH : Hid (W0 = (w.alloc (.cells #[.int .i64 B, .int .i64 X, .slice a n cap] 24)).alloc (.cells #[.int .i64 K, .int .i64 W] 26)) := hide hW0
  have HR := hide (fun V (g : Below W0.heap.size W0 V) => hr.below (boxB2 (low2 HB0.out g)))
  have HK := hide (fun (V : World) (g : Below W0.heap.size W0 V) => by
    obtain ⟨c0, c1, c2, d0, d1, _⟩ := cells5 (low2 HB0.out g)
    exact And.intro c0 (And.intro c1 (And.intro c2 (And.intro d0 (And.intro d1 g)))))
  have HF := hide (fun V (g : Below W0.heap.size W0 V) => boxB2 (low2 HB0.out g))
  have hb0 := Below.refl W0.heap.size W0
  have LL := hide (fun V (g : Below W0.heap.size W0 V) => l.step (HF.out V g))
  have CC := hide (based (Nat.le_refl _) fun V (g : Below W0.heap.size W0 V) => Check_any B X a n cap A O K W V (LL.out V g) (HR.out V g))
  have CI := hide (based (Nat.le_refl _) fun V (_ : Below W0.heap.size W0 V) => (instant_any t V).mono fun _ w' (h : _ ∧ V = w') => And.intro h.1 (by rw [← h.2]; exact Below.refl _ _))
  have HT := hide (fun (h0 : chkS B X A O n K W = 0) => chkS_ok h0)
  generalize chkS B X A O n K W = c at *
  clear hW0 l
  rcases act_ways c t (inT A O n K W t) with ⟨h1, h2, e1⟩ | ⟨rfl, h1, e1⟩ | ⟨rfl, h1, e1⟩
  · rw [e1]
    clear CI e1 h2
    go_enter Tryd.func18, Tryd.ntmps18
    go_wp2_with fail
    rw [← HH.out]
    with_reducible refine (CC.out _ hb0).mono ?_
    rintro e w1 ⟨rfl, b1⟩
    have HFF := hide (HF.out _ b1)
    obtain ⟨c0, c1, c2, d0, d1, _⟩ := HK.out _ b1
    clear b1
    go_wp2
    go_ret
    exact ⟨rfl, HFF.out⟩
  · rw [e1]
    rw [h1] at CI
    clear e1 h1
    go_enter Tryd.func18, Tryd.ntmps18
    go_wp2_with fail
    rw [← HH.out]
    with_reducible refine (CC.out _ hb0).mono ?_
    rintro e w1 ⟨rfl, b1⟩
    obtain ⟨c0, c1, c2, d0, d1, _⟩ := HK.out _ b1
    go_wp2_with fail
    with_reducible refine (CI.out _ b1).mono ?_
    rintro e w2 ⟨rfl, b2⟩
    clear c0 c1 c2 d0 d1
    have HFF := hide (HF.out _ b2)
    obtain ⟨c0, c1, c2, d0, d1, _⟩ := HK.out _ b2
    clear b1 b2
    go_wp2
    go_ret
    exact ⟨rfl, HFF.out⟩
  · rw [e1]
    rw [h1] at CI
    obtain ⟨T, hp⟩ := HT.out rfl
    obtain ⟨t1, t2⟩ := instB_iff.1 h1
    have CL := hide (based (Nat.le_refl _) fun V (g : Below W0.heap.size W0 V) => locate_any B X a n cap A O K W t V (HR.out V g) T hp ⟨t1, t2⟩)
    have HS := hide (step_in T hp t)
    unfold stepT at HS
    generalize (locV B O (frm K W A O) (W * 1000000000) n t).1 = x at *
    generalize (locV B O (frm K W A O) (W * 1000000000) n t).2.1 = y at *
    generalize (locV B O (frm K W A O) (W * 1000000000) n t).2.2 = z at *
    have hfd : ∀ V : World, (Instr.field 48 (.agg #[.int .i64 x, .int .i64 y, .int .i64 z]) 1).run Tryd.prog V = .ok (.int .i64 y) V := fun _ => by kernel_rfl
    clear hr e1 h1 T hp
    go_enter Tryd.func18, Tryd.ntmps18
    go_wp2_with fail
    rw [← HH.out]
    with_reducible refine (CC.out _ hb0).mono ?_
    rintro e w1 ⟨rfl, b1⟩
    obtain ⟨c0, c1, c2, d0, d1, _⟩ := HK.out _ b1
    go_wp2_with fail
    with_reducible refine (CI.out _ b1).mono ?_
    rintro e w2 ⟨rfl, b2⟩
    clear c0 c1 c2 d0 d1
    obtain ⟨c0, c1, c2, d0, d1, _⟩ := HK.out _ b2
    go_wp2_with fail
    with_reducible refine (CL.out _ b2).mono ?_
    rintro e w3 ⟨rfl, b3⟩
    clear c0 c1 c2 d0 d1
    have HFF := hide (HF.out _ b3)
    obtain ⟨c0, c1, c2, d0, d1, _⟩ := HK.out _ b3
    clear b1 b2 b3
    go_wp2
    go_ret
    exact ⟨ret_bool HS.out, HFF.out⟩
set_option maxRecDepth 100000 in
set_option maxHeartbeats 3200000 in
theorem RActive_any (B X : Int) (a : Option Addr) (n cap : Nat) (A O : Nat → Int) (K W t : Int) (w : World) (hr : Ents w a n A O) :
    Calls Tryd.prog 19 #[.agg #[.int .i64 B, .int .i64 X, .slice a n cap], .agg #[.int .i64 K, .int .i64 W], .int .i64 t] w fun e w' => e = .returned (.bool (actB (chkS B X A O n K W) t (inT A O n K W t))) ∧ Below w.heap.size w w' := by
  obtain ⟨W0, hW0⟩ : ∃ W0, W0 = (w.alloc (.cells #[.int .i64 B, .int .i64 X, .slice a n cap] 24)).alloc (.cells #[.int .i64 K, .int .i64 W] 26) := ⟨_, rfl⟩
  have HB0 : Hid (Below (w.heap.size + 2) ((w.alloc (.cells #[.int .i64 B, .int .i64 X, .slice a n cap] 24)).alloc (.cells #[.int .i64 K, .int .i64 W] 26)) W0) := hide (by rw [hW0]; exact Below.refl _ _)
  have HH : Hid (W0 = (w.alloc (.cells #[.int .i64 B, .int .i64 X, .slice a n cap] 24)).alloc (.cells #[.int .i64 K, .int .i64 W] 26)) := hide hW0
  have HR := hide (fun V (g : Below W0.heap.size W0 V) => hr.below (boxB2 (low2 HB0.out g)))
  have HK := hide (fun (V : World) (g : Below W0.heap.size W0 V) => by
    obtain ⟨c0, c1, c2, d0, d1, _⟩ := cells5 (low2 HB0.out g)
    exact And.intro c0 (And.intro c1 (And.intro c2 (And.intro d0 (And.intro d1 g)))))
  have HF := hide (fun V (g : Below W0.heap.size W0 V) => boxB2 (low2 HB0.out g))
  have hb0 := Below.refl W0.heap.size W0
  have CC := hide (based (Nat.le_refl _) fun V (g : Below W0.heap.size W0 V) => RCheck_any B X a n cap A O K W V (HR.out V g))
  have CI := hide (based (Nat.le_refl _) fun V (_ : Below W0.heap.size W0 V) => (inside_any t V).mono fun _ w' (h : _ ∧ V = w') => And.intro h.1 (by rw [← h.2]; exact Below.refl _ _))
  have HT := hide (fun (h0 : chkS B X A O n K W = 0) => chkS_ok h0)
  generalize chkS B X A O n K W = c at *
  clear hW0
  rcases act_ways c t (inT A O n K W t) with ⟨h1, h2, e1⟩ | ⟨rfl, h1, e1⟩ | ⟨rfl, h1, e1⟩
  · rw [e1]
    clear CI e1 h2
    go_enter Tryd.func19, Tryd.ntmps19
    go_wp2_with fail
    rw [← HH.out]
    with_reducible refine (CC.out _ hb0).mono ?_
    rintro e w1 ⟨rfl, b1⟩
    have HFF := hide (HF.out _ b1)
    obtain ⟨c0, c1, c2, d0, d1, _⟩ := HK.out _ b1
    clear b1
    go_wp2
    go_ret
    exact ⟨rfl, HFF.out⟩
  · rw [e1]
    rw [h1] at CI
    clear e1 h1
    go_enter Tryd.func19, Tryd.ntmps19
    go_wp2_with fail
    rw [← HH.out]
    with_reducible refine (CC.out _ hb0).mono ?_
    rintro e w1 ⟨rfl, b1⟩
    obtain ⟨c0, c1, c2, d0, d1, _⟩ := HK.out _ b1
    go_wp2_with fail
    with_reducible refine (CI.out _ b1).mono ?_
    rintro e w2 ⟨rfl, b2⟩
    clear c0 c1 c2 d0 d1
    have HFF := hide (HF.out _ b2)
    obtain ⟨c0, c1, c2, d0, d1, _⟩ := HK.out _ b2
    clear b1 b2
    go_wp2
    go_ret
    exact ⟨rfl, HFF.out⟩
  · rw [e1]
    rw [h1] at CI
    obtain ⟨T, hp⟩ := HT.out rfl
    obtain ⟨t1, t2⟩ := instB_iff.1 h1
    obtain ⟨hpn, p1, p2⟩ := plc_spec (frm K W A O) t n
    have CP := hide (based (Nat.le_refl _) fun V (g : Below W0.heap.size W0 V) => place_any B X a n cap A O K W t V (HR.out V g) T hp)
    have CG := hide (based (Nat.le_refl _) fun V (g : Below W0.heap.size W0 V) => gone_any B X a n cap A O K W t (plc (frm K W A O) t n) V (HR.out V g) T hp ⟨t1, t2⟩ hpn p1)
    unfold inT
    generalize plc (frm K W A O) t n = p at *
    generalize decide (InW (frm K W A O) (W * 1000000000) t p) = gb at *
    generalize frm K W A O (p - 1) = f at *
    generalize (if gb = true then t - f else 0) = q at *
    clear hr e1 h1 T hp p1 p2
    go_enter Tryd.func19, Tryd.ntmps19
    go_wp2_with fail
    rw [← HH.out]
    with_reducible refine (CC.out _ hb0).mono ?_
    rintro e w1 ⟨rfl, b1⟩
    obtain ⟨c0, c1, c2, d0, d1, _⟩ := HK.out _ b1
    go_wp2_with fail
    with_reducible refine (CI.out _ b1).mono ?_
    rintro e w2 ⟨rfl, b2⟩
    clear c0 c1 c2 d0 d1
    obtain ⟨c0, c1, c2, d0, d1, _⟩ := HK.out _ b2
    go_wp2_with fail
    have hne := lt_some W0
    have y0 := fun V : Lt W0 => (HK.out _ V.h).1
    have y1 := fun V : Lt W0 => (HK.out _ V.h).2.1
    have y2 := fun V : Lt W0 => (HK.out _ V.h).2.2.1
    have y3 := fun V : Lt W0 => (HK.out _ V.h).2.2.2.1
    have y4 := fun V : Lt W0 => (HK.out _ V.h).2.2.2.2.1
    refine region_lt W0 (by kernel_rfl) (by kernel_rfl) (by assumption) ?_
    repeat (go_big_quiet_step (first | (go_at_call 35; with_reducible exact call_lt (CP.out _ (Lt.h _))) | (go_at_call 34; with_reducible exact call_lt (CG.out _ (Lt.h _)))))
    refine wpQuiet_nil ?_
    intro _ hw'
    obtain ⟨V, rfl⟩ := hw'
    clear y0 y1 y2 y3 y4 hne
    have b3 := V.h
    clear c0 c1 c2 d0 d1
    have HFF := hide (HF.out _ b3)
    obtain ⟨c0, c1, c2, d0, d1, _⟩ := HK.out _ b3
    clear b1 b2 b3
    go_wp2
    go_ret
    exact ⟨rfl, HFF.out⟩
end Go.Proofs.YtnnfaejejnfckaaDoor.Smr
