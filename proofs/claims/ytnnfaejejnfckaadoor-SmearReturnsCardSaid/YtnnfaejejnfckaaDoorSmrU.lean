/- The contract of layer 7: Tai of the package at the kind that steps. -/
import Derived.Test.YtnnfaejejnfckaaDoorSmrT
namespace Go.Proofs.YtnnfaejejnfckaaDoor.Smr
open Go.RowKit Aid Civ Leap
theorem cells6 {w : World} {x0 x1 x2 y0 y1 z0 : Value} {T U S : TypeId} {W : World} (h : Below (w.heap.size + 3) (((w.alloc (.cells #[x0, x1, x2] T)).alloc (.cells #[y0, y1] U)).alloc (.cells #[z0] S)) W) :
    W.cell? ⟨w.heap.size, 0, none⟩ = some x0 ∧ W.cell? ⟨w.heap.size, 1, none⟩ = some x1 ∧ W.cell? ⟨w.heap.size, 2, none⟩ = some x2 ∧ W.cell? ⟨w.heap.size + 1, 0, none⟩ = some y0 ∧ W.cell? ⟨w.heap.size + 1, 1, none⟩ = some y1 ∧ W.cell? ⟨w.heap.size + 1 + 1, 0, none⟩ = some z0 ∧ w.heap.size + 3 ≤ W.heap.size := by
  have c : ∀ b o, b < w.heap.size + 3 → W.cell? ⟨b, o, none⟩ = (((w.alloc (.cells #[x0, x1, x2] T)).alloc (.cells #[y0, y1] U)).alloc (.cells #[z0] S)).cell? ⟨b, o, none⟩ := fun b o hb => h.cell (p := ⟨b, o, none⟩) hb
  refine ⟨(c _ 0 (by omega)).trans (by simp [go_sem]), (c _ 1 (by omega)).trans (by simp [go_sem]), (c _ 2 (by omega)).trans (by simp [go_sem]), (c _ 0 (by omega)).trans (by simp [go_sem]), (c _ 1 (by omega)).trans (by simp [go_sem]), (c _ 0 (by omega)).trans (by simp [go_sem]), ?_⟩
  have := h.size; simp at this; omega
theorem low3 {w : World} {a b c : Obj} {W W' : World} (h : Below (w.heap.size + 3) (((w.alloc a).alloc b).alloc c) W) (k : Below W.heap.size W W') : Below (w.heap.size + 3) (((w.alloc a).alloc b).alloc c) W' :=
  h.trans (k.mono (by have := h.size; simp at this; omega))
def taiV (c u : Int) (r : Int × Bool) : Int := if c = 0 ∧ instB u = true ∧ r.2 = true then r.1 else 0
def taiE (c u : Int) (r : Int × Bool) : Int := if c = 0 then (if instB u = true ∧ r.2 = true then 0 else 3) else c
theorem tai_ways (c u : Int) (r : Int × Bool) : ((c != 0) = true ∧ c ≠ 0 ∧ taiV c u r = 0 ∧ taiE c u r = c) ∨ (c = 0 ∧ instB u = false ∧ taiV c u r = 0 ∧ taiE c u r = 3) ∨ (c = 0 ∧ instB u = true ∧ r.2 = false ∧ taiV c u r = 0 ∧ taiE c u r = 3) ∨ (c = 0 ∧ instB u = true ∧ r.2 = true ∧ taiV c u r = r.1 ∧ taiE c u r = 0) := by
  unfold taiV taiE
  by_cases h : c = 0
  · subst h
    cases h1 : instB u <;> cases h2 : r.2 <;> simp
  · exact .inl ⟨by simpa using h, h, by rw [if_neg (fun k => h k.1)], by rw [if_neg h]⟩
-- by program
set_option maxRecDepth 100000 in
set_option maxHeartbeats 3200000 in
theorem Tai_step (B X : Int) (a : Option Addr) (n cap : Nat) (A O : Nat → Int) (K W u : Int) (w : World) (l : Laid w) (hr : Ents w a n A O) (hK : K = 1) :
    Calls Tryd.prog 16 #[.agg #[.int .i64 B, .int .i64 X, .slice a n cap], .agg #[.int .i64 K, .int .i64 W], .int .i64 u] w fun e w' => e = .returned (.tuple #[.int .i64 (taiV (chkS B X A O n K W) u (steT B A O n u)), .int .i64 (taiE (chkS B X A O n K W) u (steT B A O n u))]) ∧ Below w.heap.size w w' := by
  obtain ⟨W0, hW0⟩ : ∃ W0, W0 = ((w.alloc (.cells #[.int .i64 B, .int .i64 X, .slice a n cap] 24)).alloc (.cells #[.int .i64 K, .int .i64 W] 26)).alloc (.cells #[.int .i64 u] 3) := ⟨_, rfl⟩
  have HB0 : Hid (Below (w.heap.size + 3) (((w.alloc (.cells #[.int .i64 B, .int .i64 X, .slice a n cap] 24)).alloc (.cells #[.int .i64 K, .int .i64 W] 26)).alloc (.cells #[.int .i64 u] 3)) W0) := hide (by rw [hW0]; exact Below.refl _ _)
  have HH : Hid (W0 = ((w.alloc (.cells #[.int .i64 B, .int .i64 X, .slice a n cap] 24)).alloc (.cells #[.int .i64 K, .int .i64 W] 26)).alloc (.cells #[.int .i64 u] 3)) := hide hW0
  have HR := hide (fun V (g : Below W0.heap.size W0 V) => hr.below (boxB3 (low3 HB0.out g)))
  have HK := hide (fun (V : World) (g : Below W0.heap.size W0 V) => cells6 (low3 HB0.out g))
  have HF := hide (fun V (g : Below W0.heap.size W0 V) => boxB3 (low3 HB0.out g))
  have hb0 := Below.refl W0.heap.size W0
  have LL := hide (fun V (g : Below W0.heap.size W0 V) => l.step (HF.out V g))
  have CC := hide (based (Nat.le_refl _) fun V (g : Below W0.heap.size W0 V) => Check_any B X a n cap A O K W V (LL.out V g) (HR.out V g))
  have CI := hide (based (Nat.le_refl _) fun V (_ : Below W0.heap.size W0 V) => (instant_any u V).mono fun _ w' (h : _ ∧ V = w') => And.intro h.1 (by rw [← h.2]; exact Below.refl _ _))
  have cs : ∀ (h0 : chkS B X A O n K W = 0) (h1 : instB u = true), ∀ V, Below W0.heap.size W0 V → Calls Tryd.prog 28 #[.agg #[.int .i64 B, .int .i64 X, .slice a n cap], .int .i64 u] V fun e w' => e = .returned (.tuple #[.int .i64 (steT B A O n u).1, .bool (steT B A O n u).2]) ∧ Below W0.heap.size W0 w' := fun h0 h1 => based (Nat.le_refl _) fun V g => stepped_any B X a n cap A O u V (HR.out V g) (chkS_ok h0).1 (instB_iff.1 h1)
  have CS := hide cs
  generalize chkS B X A O n K W = c at *
  generalize steT B A O n u = rs at *
  obtain ⟨r, s⟩ := rs
  clear hW0 hr l cs
  subst hK
  rcases tai_ways c u (r, s) with ⟨h1, h2, e1, e2⟩ | ⟨rfl, h1, e1, e2⟩ | ⟨rfl, h1, h2, e1, e2⟩ | ⟨rfl, h1, h2, e1, e2⟩
  · rw [e1, e2]
    clear CS CI e1 e2 h2
    go_enter Tryd.func16, Tryd.ntmps16
    go_wp2_with fail
    rw [← HH.out]
    with_reducible refine (CC.out _ hb0).mono ?_
    rintro e w1 ⟨rfl, b1⟩
    have HFF := hide (HF.out _ b1)
    obtain ⟨c0, c1, c2, d0, d1, e0, _⟩ := HK.out _ b1
    clear b1
    go_wp2
    go_ret2
    exact ⟨rfl, HFF.out⟩
  · rw [e1, e2]
    rw [h1] at CI
    clear CS e1 e2 h1
    go_enter Tryd.func16, Tryd.ntmps16
    go_wp2_with fail
    rw [← HH.out]
    with_reducible refine (CC.out _ hb0).mono ?_
    rintro e w1 ⟨rfl, b1⟩
    obtain ⟨c0, c1, c2, d0, d1, e0, _⟩ := HK.out _ b1
    go_wp2_with fail
    with_reducible refine (CI.out _ b1).mono ?_
    rintro e w2 ⟨rfl, b2⟩
    clear c0 c1 c2 d0 d1 e0
    have HFF := hide (HF.out _ b2)
    obtain ⟨c0, c1, c2, d0, d1, e0, _⟩ := HK.out _ b2
    clear b1 b2
    go_wp2
    go_ret2
    exact ⟨rfl, HFF.out⟩
  · rw [e1, e2]
    have CT := hide (CS.out rfl h1)
    rw [h1] at CI
    have h2 : s = false := h2
    subst h2
    clear CS e1 e2 h1
    go_enter Tryd.func16, Tryd.ntmps16
    go_wp2_with fail
    rw [← HH.out]
    with_reducible refine (CC.out _ hb0).mono ?_
    rintro e w1 ⟨rfl, b1⟩
    obtain ⟨c0, c1, c2, d0, d1, e0, _⟩ := HK.out _ b1
    go_wp2_with fail
    with_reducible refine (CI.out _ b1).mono ?_
    rintro e w2 ⟨rfl, b2⟩
    clear c0 c1 c2 d0 d1 e0
    obtain ⟨c0, c1, c2, d0, d1, e0, _⟩ := HK.out _ b2
    go_wp2_with fail
    with_reducible refine (CT.out _ b2).mono ?_
    rintro e w3 ⟨rfl, b3⟩
    clear c0 c1 c2 d0 d1 e0
    have HFF := hide (HF.out _ b3)
    obtain ⟨c0, c1, c2, d0, d1, e0, _⟩ := HK.out _ b3
    clear b1 b2 b3
    go_wp2
    go_ret2
    exact ⟨rfl, HFF.out⟩
  · rw [e1, e2]
    have CT := hide (CS.out rfl h1)
    rw [h1] at CI
    have h2 : s = true := h2
    subst h2
    clear CS e1 e2 h1
    go_enter Tryd.func16, Tryd.ntmps16
    go_wp2_with fail
    rw [← HH.out]
    with_reducible refine (CC.out _ hb0).mono ?_
    rintro e w1 ⟨rfl, b1⟩
    obtain ⟨c0, c1, c2, d0, d1, e0, _⟩ := HK.out _ b1
    go_wp2_with fail
    with_reducible refine (CI.out _ b1).mono ?_
    rintro e w2 ⟨rfl, b2⟩
    clear c0 c1 c2 d0 d1 e0
    obtain ⟨c0, c1, c2, d0, d1, e0, _⟩ := HK.out _ b2
    go_wp2_with fail
    with_reducible refine (CT.out _ b2).mono ?_
    rintro e w3 ⟨rfl, b3⟩
    clear c0 c1 c2 d0 d1 e0
    have HFF := hide (HF.out _ b3)
    obtain ⟨c0, c1, c2, d0, d1, e0, _⟩ := HK.out _ b3
    clear b1 b2 b3
    go_wp2
    go_ret2
    exact ⟨rfl, HFF.out⟩
end Go.Proofs.YtnnfaejejnfckaaDoor.Smr
