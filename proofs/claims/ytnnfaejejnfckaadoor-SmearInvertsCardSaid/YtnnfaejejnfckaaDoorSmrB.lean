/- The contracts of layer 7: Check of both. -/
import Derived.Test.YtnnfaejejnfckaaDoorSmrA
import Derived.Test.YtnnfaejejnfckaaDoorLeapD
namespace Go.Proofs.YtnnfaejejnfckaaDoor.Smr
open Go.RowKit Aid Civ Leap
theorem polE_ways (K W : Int) :
    (K = 1 ∧ W = 0 ∧ polE K W = 0) ∨ (K = 1 ∧ (W != 0) = true ∧ polE K W = 3) ∨
    ((K = 2 ∨ K = 3 ∨ K = 4) ∧ W < 2 ∧ polE K W = 3) ∨ ((K = 2 ∨ K = 3 ∨ K = 4) ∧ 2 ≤ W ∧ 172800 < W ∧ polE K W = 3) ∨
    ((K = 2 ∨ K = 3 ∨ K = 4) ∧ 2 ≤ W ∧ W ≤ 172800 ∧ (W % 2 != 0) = true ∧ polE K W = 3) ∨ ((K = 2 ∨ K = 3 ∨ K = 4) ∧ 2 ≤ W ∧ W ≤ 172800 ∧ (W % 2 != 0) = false ∧ polE K W = 0) ∨
    ((K == 1) = false ∧ (K == 2) = false ∧ (K == 3) = false ∧ (K == 4) = false ∧ (K < 1 ∨ 4 < K) ∧ polE K W = 8) := by
  by_cases h1 : K = 1
  · subst h1
    by_cases h2 : W = 0
    · exact .inl ⟨rfl, h2, by simp [polE, h2]⟩
    · exact .inr (.inl ⟨rfl, by simpa using h2, by simp [polE, h2]⟩)
  · by_cases h2 : 2 ≤ K ∧ K ≤ 4
    · have hk : K = 2 ∨ K = 3 ∨ K = 4 := by omega
      have e : polE K W = if 2 ≤ W ∧ W ≤ 172800 ∧ W % 2 = 0 then 0 else 3 := by unfold polE; rw [if_neg h1, if_pos h2]
      by_cases h3 : W < 2
      · exact .inr (.inr (.inl ⟨hk, h3, by rw [e, if_neg (by omega)]⟩))
      · by_cases h4 : 172800 < W
        · exact .inr (.inr (.inr (.inl ⟨hk, by omega, h4, by rw [e, if_neg (by omega)]⟩)))
        · skip
          by_cases h5 : W % 2 = 0
          · exact .inr (.inr (.inr (.inr (.inr (.inl ⟨hk, by omega, by omega, by simpa using h5, by rw [e, if_pos (by omega)]⟩)))))
          · exact .inr (.inr (.inr (.inr (.inl ⟨hk, by omega, by omega, by simpa using h5, by rw [e, if_neg (by omega)]⟩))))
    · exact .inr (.inr (.inr (.inr (.inr (.inr ⟨by simpa using h1, by simp; omega, by simp; omega, by simp; omega, by omega, by unfold polE; rw [if_neg h1, if_neg h2]⟩)))))
theorem cells5 {w : World} {x0 x1 x2 y0 y1 : Value} {T U : TypeId} {W : World} (h : Below (w.heap.size + 2) ((w.alloc (.cells #[x0, x1, x2] T)).alloc (.cells #[y0, y1] U)) W) :
    W.cell? ⟨w.heap.size, 0, none⟩ = some x0 ∧ W.cell? ⟨w.heap.size, 1, none⟩ = some x1 ∧ W.cell? ⟨w.heap.size, 2, none⟩ = some x2 ∧ W.cell? ⟨w.heap.size + 1, 0, none⟩ = some y0 ∧ W.cell? ⟨w.heap.size + 1, 1, none⟩ = some y1 ∧ w.heap.size + 2 ≤ W.heap.size := by
  have c : ∀ b o, b < w.heap.size + 2 → W.cell? ⟨b, o, none⟩ = ((w.alloc (.cells #[x0, x1, x2] T)).alloc (.cells #[y0, y1] U)).cell? ⟨b, o, none⟩ := fun b o hb => h.cell (p := ⟨b, o, none⟩) hb
  refine ⟨(c _ 0 (by omega)).trans (by simp [go_sem]), (c _ 1 (by omega)).trans (by simp [go_sem]), (c _ 2 (by omega)).trans (by simp [go_sem]), (c _ 0 (by omega)).trans (by simp [go_sem]), (c _ 1 (by omega)).trans (by simp [go_sem]), ?_⟩
  have := h.size; simp at this; omega
theorem boxB2 {w : World} {a b : Obj} {W : World} (h : Below (w.heap.size + 2) ((w.alloc a).alloc b) W) : Below w.heap.size w W := (bb2 a b).trans (h.mono (by omega))
theorem low2 {w : World} {a b : Obj} {W W' : World} (h : Below (w.heap.size + 2) ((w.alloc a).alloc b) W) (k : Below W.heap.size W W') : Below (w.heap.size + 2) ((w.alloc a).alloc b) W' :=
  h.trans (k.mono (by have := h.size; simp at this; omega))
set_option maxHeartbeats 1600000 in
theorem Check_any (B X : Int) (a : Option Addr) (n cap : Nat) (A O : Nat → Int) (K W : Int) (w : World) (l : Laid w) (hr : Ents w a n A O) :
    Calls Tryd.prog 11 #[.agg #[.int .i64 B, .int .i64 X, .slice a n cap], .agg #[.int .i64 K, .int .i64 W]] w fun e w' => e = .returned (.int .i64 (chkS B X A O n K W)) ∧ Below w.heap.size w w' := by
  have b := bb2 (w := w) (.cells #[.int .i64 B, .int .i64 X, .slice a n cap] 24) (.cells #[.int .i64 K, .int .i64 W] 26)
  have C := hide (Leap.Check_any B X a n cap A O _ (l.step b) (hr.below b))
  have HB := hide b
  have LW := hide fun W' => low2 (w := w) (a := .cells #[.int .i64 B, .int .i64 X, .slice a n cap] 24) (b := .cells #[.int .i64 K, .int .i64 W] 26) (W := (w.alloc (.cells #[.int .i64 B, .int .i64 X, .slice a n cap] 24)).alloc (.cells #[.int .i64 K, .int .i64 W] 26)) (W' := W') (Below.refl _ _)
  clear l hr b
  unfold chkS
  by_cases h : chkT B X A O n = 0
  · rw [if_pos h]
    rw [h] at C
    clear h
    rcases polE_ways K W with ⟨rfl, rfl, e⟩ | ⟨rfl, k, e⟩ | ⟨rfl | rfl | rfl, k, e⟩ | ⟨rfl | rfl | rfl, k1, k2, e⟩ | ⟨rfl | rfl | rfl, k1, k2, k3, e⟩ | ⟨rfl | rfl | rfl, k1, k2, k3, e⟩ | ⟨k1, k2, k3, k4, _, e⟩
    all_goals
      rw [e]
      clear e
      go_enter Tryd.func11, Tryd.ntmps11
      go_wp2_with fail
      refine C.out.mono ?_
      rintro e w1 ⟨rfl, hb⟩
      obtain ⟨c0, c1, c2, d0, d1, _⟩ := cells5 (LW.out _ hb)
      have HB2 := hide (HB.out.trans (hb.mono HB.out.size))
      clear hb C
      go_wp2
      go_ret
      exact ⟨rfl, HB2.out⟩
  · rw [if_neg h]
    have hn : (chkT B X A O n != 0) = true := by simpa using h
    generalize chkT B X A O n = v at *
    clear h
    go_enter Tryd.func11, Tryd.ntmps11
    go_wp2_with fail
    refine C.out.mono ?_
    rintro e w1 ⟨rfl, hb⟩
    have HB2 := hide (HB.out.trans (hb.mono HB.out.size))
    clear hb C
    go_wp2
    go_ret
    exact ⟨rfl, HB2.out⟩
set_option maxHeartbeats 1600000 in
theorem RCheck_any (B X : Int) (a : Option Addr) (n cap : Nat) (A O : Nat → Int) (K W : Int) (w : World) (hr : Ents w a n A O) :
    Calls Tryd.prog 12 #[.agg #[.int .i64 B, .int .i64 X, .slice a n cap], .agg #[.int .i64 K, .int .i64 W]] w fun e w' => e = .returned (.int .i64 (chkS B X A O n K W)) ∧ Below w.heap.size w w' := by
  have b := bb2 (w := w) (.cells #[.int .i64 B, .int .i64 X, .slice a n cap] 24) (.cells #[.int .i64 K, .int .i64 W] 26)
  have C := hide (Leap.RCheck_any B X a n cap A O _ (hr.below b))
  have HB := hide b
  have LW := hide fun W' => low2 (w := w) (a := .cells #[.int .i64 B, .int .i64 X, .slice a n cap] 24) (b := .cells #[.int .i64 K, .int .i64 W] 26) (W := (w.alloc (.cells #[.int .i64 B, .int .i64 X, .slice a n cap] 24)).alloc (.cells #[.int .i64 K, .int .i64 W] 26)) (W' := W') (Below.refl _ _)
  clear hr b
  unfold chkS
  by_cases h : chkT B X A O n = 0
  · rw [if_pos h]
    rw [h] at C
    clear h
    rcases polE_ways K W with ⟨rfl, rfl, e⟩ | ⟨rfl, k, e⟩ | ⟨rfl | rfl | rfl, k, e⟩ | ⟨rfl | rfl | rfl, k1, k2, e⟩ | ⟨rfl | rfl | rfl, k1, k2, k3, e⟩ | ⟨rfl | rfl | rfl, k1, k2, k3, e⟩ | ⟨k1, k2, k3, k4, k5 | k5, e⟩
    all_goals
      rw [e]
      clear e
      go_enter Tryd.func12, Tryd.ntmps12
      go_wp2_with fail
      refine C.out.mono ?_
      rintro e w1 ⟨rfl, hb⟩
      obtain ⟨c0, c1, c2, d0, d1, _⟩ := cells5 (LW.out _ hb)
      have HB2 := hide (HB.out.trans (hb.mono HB.out.size))
      clear hb C
      go_wp2
      go_ret
      exact ⟨rfl, HB2.out⟩
  · rw [if_neg h]
    have hn : (chkT B X A O n != 0) = true := by simpa using h
    generalize chkT B X A O n = v at *
    clear h
    go_enter Tryd.func12, Tryd.ntmps12
    go_wp2_with fail
    refine C.out.mono ?_
    rintro e w1 ⟨rfl, hb⟩
    have HB2 := hide (HB.out.trans (hb.mono HB.out.size))
    clear hb C
    go_wp2
    go_ret
    exact ⟨rfl, HB2.out⟩
end Go.Proofs.YtnnfaejejnfckaaDoor.Smr
