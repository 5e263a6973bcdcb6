/- The contracts of layer 7: Read of both. -/
import Derived.Test.YtnnfaejejnfckaaDoorSmrE
namespace Go.Proofs.YtnnfaejejnfckaaDoor.Smr
open Go.RowKit Aid Civ Leap
noncomputable def rdT (B : Int) (A O : Nat → Int) (n : Nat) (K W t : Int) : Int := rd B W O (frm K W A O) (W * 1000000000) n t
def readV (c t u : Int) : Int := if c = 0 ∧ instB t = true ∧ instB u = true then u else 0
def readE (c t u : Int) : Int := if c = 0 then (if instB t = true ∧ instB u = true then 0 else 3) else c
theorem read_ways (c t u : Int) : ((c != 0) = true ∧ c ≠ 0 ∧ readV c t u = 0 ∧ readE c t u = c) ∨ (c = 0 ∧ instB t = false ∧ readV c t u = 0 ∧ readE c t u = 3) ∨ (c = 0 ∧ instB t = true ∧ instB u = false ∧ readV c t u = 0 ∧ readE c t u = 3) ∨ (c = 0 ∧ instB t = true ∧ instB u = true ∧ readV c t u = u ∧ readE c t u = 0) := by
  unfold readV readE
  by_cases h : c = 0
  · subst h
    cases h1 : instB t <;> cases h2 : instB u <;> simp
  · exact .inl ⟨by simpa using h, h, by rw [if_neg (fun k => h k.1)], by rw [if_neg h]⟩
set_option maxRecDepth 100000 in
set_option maxHeartbeats 3200000 in
theorem Read_any (B X : Int) (a : Option Addr) (n cap : Nat) (A O : Nat → Int) (K W t : Int) (w : World) (l : Laid w) (hr : Ents w a n A O) (ht : -9223372036854775808 ≤ t ∧ t ≤ 9223372036854775807) :
    Calls Tryd.prog 14 #[.agg #[.int .i64 B, .int .i64 X, .slice a n cap], .agg #[.int .i64 K, .int .i64 W], .int .i64 t] w fun e w' => e = .returned (.tuple #[.int .i64 (readV (chkS B X A O n K W) t (rdT B A O n K W t)), .int .i64 (readE (chkS B X A O n K W) t (rdT B A O n K W t))]) ∧ Below w.heap.size w w' := by
  obtain ⟨W0, hW0⟩ : ∃ W0, W0 = (w.alloc (.cells #[.int .i64 B, .int .i64 X, .slice a n cap] 24)).alloc (.cells #[.int .i64 K, .int .i64 W] 26) := ⟨_, rfl⟩
  have HB0 : Hid (Below (w.heap.size + 2) ((w.alloc (.cells #[.int .i64 B, .int .i64 X, .slice a n cap] 24)).alloc (.cells #[.int .i64 K, .int .i64 W] 26)) W0) := hide (by rw [hW0]; exact Below.refl _ _)
  have HH : Hid (W0 = (w.alloc (.cells #[.int .i64 B, .int .i64 X, .slice a n cap] 24)).alloc (.cells #[.int .i64 K, .int .i64 W] 26)) := hide hW0
  have HR := hide (fun V (g : Below W0.heap.size W0 V) => hr.below (boxB2 (low2 HB0.out g)))
  have HK := hide (fun (V : World) (g : Below W0.heap.size W0 V) => by
    obtain ⟨c0, c1, c2, d0, d1, _⟩ := cells5 (low2 HB0.out g)
    exact And.intro c0 (And.intro c1 (And.intro c2 (And.intro d0 (And.intro d1 g)))))
  have HF := hide (fun V (g : Below W0.heap.size W0 V) => boxB2 (low2 HB0.out g))
  have hb0 := Below.refl W0.heap.size W0
  have LL := hide (fun V (g : Below W0.heap.size W0 V) => l.step (HF.out V g))
  have CC := hide (based (Nat.le_refl _) fun V (g : Below W0.heap.size W0 V) => Check_any B X a n cap A O K W V (LL.out V g) (HR.out V g))
  have CI := hide (based (Nat.le_refl _) fun V (_ : Below W0.heap.size W0 V) => (instant_any t V).mono fun _ w' (h : _ ∧ V = w') => And.intro h.1 (by rw [← h.2]; exact Below.refl _ _))
  have CU := hide (based (Nat.le_refl _) fun V (_ : Below W0.heap.size W0 V) => (instant_any (rdT B A O n K W t) V).mono fun _ w' (h : _ ∧ V = w') => And.intro h.1 (by rw [← h.2]; exact Below.refl _ _))
  have CR := hide (fun (h0 : chkS B X A O n K W = 0) (h1 : instB t = true) => based (Nat.le_refl _) fun V (g : Below W0.heap.size W0 V) => reading_any B X a n cap A O K W t V (HR.out V g) (chkS_ok h0).1 (chkS_ok h0).2 (instB_iff.1 h1))
  change Hid (∀ (h0 : chkS B X A O n K W = 0) (h1 : instB t = true), ∀ V, Below W0.heap.size W0 V → Calls Tryd.prog _ _ V fun e w' => e = .returned (.int .i64 (rdT B A O n K W t)) ∧ Below W0.heap.size W0 w') at CR
  obtain ⟨t1, t2⟩ := ht
  generalize rdT B A O n K W t = u at *
  generalize chkS B X A O n K W = c at *
  clear hW0 hr l
  rcases read_ways c t u with ⟨h1, h2, e1, e2⟩ | ⟨rfl, h1, e1, e2⟩ | ⟨rfl, h1, h2, e1, e2⟩ | ⟨rfl, h1, h2, e1, e2⟩
  · rw [e1, e2]
    clear CR CU CI e1 e2 h2
    go_enter Tryd.func14, Tryd.ntmps14
    go_wp2_with fail
    rw [← HH.out]
    with_reducible refine (CC.out _ hb0).mono ?_
    rintro e w1 ⟨rfl, b1⟩
    have HFF := hide (HF.out _ b1)
    obtain ⟨c0, c1, c2, d0, d1, _⟩ := HK.out _ b1
    clear b1
    go_wp2
    go_ret2
    exact ⟨rfl, HFF.out⟩
  · rw [e1, e2]
    rw [h1] at CI
    clear CR CU e1 e2 h1
    go_enter Tryd.func14, Tryd.ntmps14
    go_wp2_with fail
    rw [← HH.out]
    with_reducible refine (CC.out _ hb0).mono ?_
    rintro e w1 ⟨rfl, b1⟩
    obtain ⟨c0, c1, c2, d0, d1, _⟩ := HK.out _ b1
    go_wp2_with fail
    with_reducible refine (CI.out _ b1).mono ?_
    rintro e w2 ⟨rfl, b2⟩
    clear c0 c1 c2 d0 d1
    have HFF := hide (HF.out _ b2)
    obtain ⟨c0, c1, c2, d0, d1, _⟩ := HK.out _ b2
    clear b1 b2
    go_wp2
    go_ret2
    exact ⟨rfl, HFF.out⟩
  · rw [e1, e2]
    have CS := hide (CR.out rfl h1)
    rw [h1] at CI
    rw [h2] at CU
    clear CR e1 e2 h1 h2
    go_enter Tryd.func14, Tryd.ntmps14
    go_wp2_with fail
    rw [← HH.out]
    with_reducible refine (CC.out _ hb0).mono ?_
    rintro e w1 ⟨rfl, b1⟩
    obtain ⟨c0, c1, c2, d0, d1, _⟩ := HK.out _ b1
    go_wp2_with fail
    with_reducible refine (CI.out _ b1).mono ?_
    rintro e w2 ⟨rfl, b2⟩
    clear c0 c1 c2 d0 d1
    obtain ⟨c0, c1, c2, d0, d1, _⟩ := HK.out _ b2
    go_wp2_with fail
    with_reducible refine (CS.out _ b2).mono ?_
    rintro e w3 ⟨rfl, b3⟩
    clear c0 c1 c2 d0 d1
    obtain ⟨c0, c1, c2, d0, d1, _⟩ := HK.out _ b3
    go_wp2_with fail
    with_reducible refine (CU.out _ b3).mono ?_
    rintro e w4 ⟨rfl, b4⟩
    clear c0 c1 c2 d0 d1
    have HFF := hide (HF.out _ b4)
    obtain ⟨c0, c1, c2, d0, d1, _⟩ := HK.out _ b4
    clear b1 b2 b3 b4
    go_wp2
    go_ret2
    exact ⟨rfl, HFF.out⟩
  · rw [e1, e2]
    have CS := hide (CR.out rfl h1)
    rw [h1] at CI
    rw [h2] at CU
    clear CR e1 e2 h1 h2
    go_enter Tryd.func14, Tryd.ntmps14
    go_wp2_with fail
    rw [← HH.out]
    with_reducible refine (CC.out _ hb0).mono ?_
    rintro e w1 ⟨rfl, b1⟩
    obtain ⟨c0, c1, c2, d0, d1, _⟩ := HK.out _ b1
    go_wp2_with fail
    with_reducible refine (CI.out _ b1).mono ?_
    rintro e w2 ⟨rfl, b2⟩
    clear c0 c1 c2 d0 d1
    obtain ⟨c0, c1, c2, d0, d1, _⟩ := HK.out _ b2
    go_wp2_with fail
    with_reducible refine (CS.out _ b2).mono ?_
    rintro e w3 ⟨rfl, b3⟩
    clear c0 c1 c2 d0 d1
    obtain ⟨c0, c1, c2, d0, d1, _⟩ := HK.out _ b3
    go_wp2_with fail
    with_reducible refine (CU.out _ b3).mono ?_
    rintro e w4 ⟨rfl, b4⟩
    clear c0 c1 c2 d0 d1
    have HFF := hide (HF.out _ b4)
    obtain ⟨c0, c1, c2, d0, d1, _⟩ := HK.out _ b4
    clear b1 b2 b3 b4
    go_wp2
    go_ret2
    exact ⟨rfl, HFF.out⟩
set_option maxRecDepth 100000 in
set_option maxHeartbeats 3200000 in
theorem RRead_any (B X : Int) (a : Option Addr) (n cap : Nat) (A O : Nat → Int) (K W t : Int) (w : World) (hr : Ents w a n A O) (ht : -9223372036854775808 ≤ t ∧ t ≤ 9223372036854775807) :
    Calls Tryd.prog 15 #[.agg #[.int .i64 B, .int .i64 X, .slice a n cap], .agg #[.int .i64 K, .int .i64 W], .int .i64 t] w fun e w' => e = .returned (.tuple #[.int .i64 (readV (chkS B X A O n K W) t (rdT B A O n K W t)), .int .i64 (readE (chkS B X A O n K W) t (rdT B A O n K W t))]) ∧ Below w.heap.size w w' := by
  obtain ⟨W0, hW0⟩ : ∃ W0, W0 = (w.alloc (.cells #[.int .i64 B, .int .i64 X, .slice a n cap] 24)).alloc (.cells #[.int .i64 K, .int .i64 W] 26) := ⟨_, rfl⟩
  have HB0 : Hid (Below (w.heap.size + 2) ((w.alloc (.cells #[.int .i64 B, .int .i64 X, .slice a n cap] 24)).alloc (.cells #[.int .i64 K, .int .i64 W] 26)) W0) := hide (by rw [hW0]; exact Below.refl _ _)
  have HH : Hid (W0 = (w.alloc (.cells #[.int .i64 B, .int .i64 X, .slice a n cap] 24)).alloc (.cells #[.int .i64 K, .int .i64 W] 26)) := hide hW0
  have HR := hide (fun V (g : Below W0.heap.size W0 V) => hr.below (boxB2 (low2 HB0.out g)))
  have HK := hide (fun (V : World) (g : Below W0.heap.size W0 V) => by
    obtain ⟨c0, c1, c2, d0, d1, _⟩ := cells5 (low2 HB0.out g)
    exact And.intro c0 (And.intro c1 (And.intro c2 (And.intro d0 (And.intro d1 g)))))
  have HF := hide (fun V (g : Below W0.heap.size W0 V) => boxB2 (low2 HB0.out g))
  have hb0 := Below.refl W0.heap.size W0
  have CC := hide (based (Nat.le_refl _) fun V (g : Below W0.heap.size W0 V) => RCheck_any B X a n cap A O K W V (HR.out V g))
  have CI := hide (based (Nat.le_refl _) fun V (_ : Below W0.heap.size W0 V) => (inside_any t V).mono fun _ w' (h : _ ∧ V = w') => And.intro h.1 (by rw [← h.2]; exact Below.refl _ _))
  have CU := hide (based (Nat.le_refl _) fun V (_ : Below W0.heap.size W0 V) => (inside_any (rdT B A O n K W t) V).mono fun _ w' (h : _ ∧ V = w') => And.intro h.1 (by rw [← h.2]; exact Below.refl _ _))
  have CR := hide (fun (h0 : chkS B X A O n K W = 0) (h1 : instB t = true) => based (Nat.le_refl _) fun V (g : Below W0.heap.size W0 V) => read_any B X a n cap A O K W t V (HR.out V g) (chkS_ok h0).1 (chkS_ok h0).2 (instB_iff.1 h1))
  change Hid (∀ (h0 : chkS B X A O n K W = 0) (h1 : instB t = true), ∀ V, Below W0.heap.size W0 V → Calls Tryd.prog _ _ V fun e w' => e = .returned (.int .i64 (rdT B A O n K W t)) ∧ Below W0.heap.size W0 w') at CR
  obtain ⟨t1, t2⟩ := ht
  generalize rdT B A O n K W t = u at *
  generalize chkS B X A O n K W = c at *
  clear hW0 hr
  rcases read_ways c t u with ⟨h1, h2, e1, e2⟩ | ⟨rfl, h1, e1, e2⟩ | ⟨rfl, h1, h2, e1, e2⟩ | ⟨rfl, h1, h2, e1, e2⟩
  · rw [e1, e2]
    clear CR CU CI e1 e2 h2
    go_enter Tryd.func15, Tryd.ntmps15
    go_wp2_with fail
    rw [← HH.out]
    with_reducible refine (CC.out _ hb0).mono ?_
    rintro e w1 ⟨rfl, b1⟩
    have HFF := hide (HF.out _ b1)
    obtain ⟨c0, c1, c2, d0, d1, _⟩ := HK.out _ b1
    clear b1
    go_wp2
    go_ret2
    exact ⟨rfl, HFF.out⟩
  · rw [e1, e2]
    rw [h1] at CI
    clear CR CU e1 e2 h1
    go_enter Tryd.func15, Tryd.ntmps15
    go_wp2_with fail
    rw [← HH.out]
    with_reducible refine (CC.out _ hb0).mono ?_
    rintro e w1 ⟨rfl, b1⟩
    obtain ⟨c0, c1, c2, d0, d1, _⟩ := HK.out _ b1
    go_wp2_with fail
    with_reducible refine (CI.out _ b1).mono ?_
    rintro e w2 ⟨rfl, b2⟩
    clear c0 c1 c2 d0 d1
    have HFF := hide (HF.out _ b2)
    obtain ⟨c0, c1, c2, d0, d1, _⟩ := HK.out _ b2
    clear b1 b2
    go_wp2
    go_ret2
    exact ⟨rfl, HFF.out⟩
  · rw [e1, e2]
    have CS := hide (CR.out rfl h1)
    rw [h1] at CI
    rw [h2] at CU
    clear CR e1 e2 h1 h2
    go_enter Tryd.func15, Tryd.ntmps15
    go_wp2_with fail
    rw [← HH.out]
    with_reducible refine (CC.out _ hb0).mono ?_
    rintro e w1 ⟨rfl, b1⟩
    obtain ⟨c0, c1, c2, d0, d1, _⟩ := HK.out _ b1
    go_wp2_with fail
    with_reducible refine (CI.out _ b1).mono ?_
    rintro e w2 ⟨rfl, b2⟩
    clear c0 c1 c2 d0 d1
    obtain ⟨c0, c1, c2, d0, d1, _⟩ := HK.out _ b2
    go_wp2_with fail
    with_reducible refine (CS.out _ b2).mono ?_
    rintro e w3 ⟨rfl, b3⟩
    clear c0 c1 c2 d0 d1
    obtain ⟨c0, c1, c2, d0, d1, _⟩ := HK.out _ b3
    go_wp2_with fail
    with_reducible refine (CU.out _ b3).mono ?_
    rintro e w4 ⟨rfl, b4⟩
    clear c0 c1 c2 d0 d1
    have HFF := hide (HF.out _ b4)
    obtain ⟨c0, c1, c2, d0, d1, _⟩ := HK.out _ b4
    clear b1 b2 b3 b4
    go_wp2
    go_ret2
    exact ⟨rfl, HFF.out⟩
  · rw [e1, e2]
    have CS := hide (CR.out rfl h1)
    rw [h1] at CI
    rw [h2] at CU
    clear CR e1 e2 h1 h2
    go_enter Tryd.func15, Tryd.ntmps15
    go_wp2_with fail
    rw [← HH.out]
    with_reducible refine (CC.out _ hb0).mono ?_
    rintro e w1 ⟨rfl, b1⟩
    obtain ⟨c0, c1, c2, d0, d1, _⟩ := HK.out _ b1
    go_wp2_with fail
    with_reducible refine (CI.out _ b1).mono ?_
    rintro e w2 ⟨rfl, b2⟩
    clear c0 c1 c2 d0 d1
    obtain ⟨c0, c1, c2, d0, d1, _⟩ := HK.out _ b2
    go_wp2_with fail
    with_reducible refine (CS.out _ b2).mono ?_
    rintro e w3 ⟨rfl, b3⟩
    clear c0 c1 c2 d0 d1
    obtain ⟨c0, c1, c2, d0, d1, _⟩ := HK.out _ b3
    go_wp2_with fail
    with_reducible refine (CU.out _ b3).mono ?_
    rintro e w4 ⟨rfl, b4⟩
    clear c0 c1 c2 d0 d1
    obtain ⟨c0, c1, c2, d0, d1, _⟩ := HK.out _ b4
    go_wp2_with fail
    with_reducible refine (CS.out _ b4).mono ?_
    rintro e w5 ⟨rfl, b5⟩
    clear c0 c1 c2 d0 d1
    have HFF := hide (HF.out _ b5)
    obtain ⟨c0, c1, c2, d0, d1, _⟩ := HK.out _ b5
    clear b1 b2 b3 b4 b5
    go_wp2
    go_ret2
    exact ⟨rfl, HFF.out⟩
end Go.Proofs.YtnnfaejejnfckaaDoor.Smr
