
/- The contracts of layer 7: the reading of an instant, of both. -/
import Derived.Test.YtnmpoeljjajdiaaDoorSmrD
namespace Go.Proofs.YtnmpoeljjajdiaaDoor.Smr
open Go.RowKit Aid Civ Leap
theorem pol_w {K W : Int} (h : KW K W) : 0 ≤ W ∧ W ≤ 172800 := by unfold KW at h; omega
theorem rd_loc {B W : Int} {O F : Nat → Int} {L : Int} {n : Nat} (P : Pol B W O F L n) (t : Int) :
    rd B W O F L n t = if (locV B O F L n t).2.1 = 0 then t - (locV B O F L n t).1 * 1000000000 else t - (locV B O F L n t).1 * 1000000000 - (locV B O F L n t).2.1 * (locV B O F L n t).2.2 / W := by
  unfold rd rdv locV
  obtain ⟨hp, h1, h2⟩ := plc_spec F t n
  generalize plc F t n = p at *
  by_cases g : InW F L t p
  · rw [if_pos g, if_pos g]
    have := P.one (p - 1) (by have := g.1; omega)
    obtain ⟨k, rfl⟩ : ∃ k, p = k + 1 := ⟨p - 1, by have := g.1; omega⟩
    rw [offP_succ]
    rw [Nat.add_sub_cancel] at *
    rw [if_neg (by show ¬ O k - offP B O k = 0; omega)]
  · rw [if_neg g, if_neg g, if_pos rfl]
theorem loc_bd {B W X : Int} {A O : Nat → Int} {n : Nat} (T : Tab B X A O n) {K : Int} (hp : KW K W) (t : Int) :
    (-1000 ≤ (locV B O (frm K W A O) (W * 1000000000) n t).1 ∧ (locV B O (frm K W A O) (W * 1000000000) n t).1 ≤ 1000) ∧ ((locV B O (frm K W A O) (W * 1000000000) n t).2.1 = 0 ∨ (((locV B O (frm K W A O) (W * 1000000000) n t).2.1 = 1 ∨ (locV B O (frm K W A O) (W * 1000000000) n t).2.1 = -1) ∧ 1 ≤ W ∧ 0 ≤ (locV B O (frm K W A O) (W * 1000000000) n t).2.2 ∧ (locV B O (frm K W A O) (W * 1000000000) n t).2.2 < W * 1000000000)) := by
  obtain ⟨hq, h1, h2⟩ := plc_spec (frm K W A O) t n
  unfold locV
  have o := pol_of T hp
  generalize frm K W A O = F at *
  generalize plc F t n = p at *
  by_cases g : InW F (W * 1000000000) t p
  · rw [if_pos g]
    obtain ⟨g1, g2⟩ := g
    obtain ⟨k, rfl⟩ : ∃ k, p = k + 1 := ⟨p - 1, by omega⟩
    rw [offP_succ]
    rw [Nat.add_sub_cancel] at *
    have := o.one k hq
    have := h1 g1
    have hw := o.w
    refine ⟨offP_bd T.b T.o (by omega), .inr ⟨?_, ?_, ?_, ?_⟩⟩
    · show O k - offP B O k = 1 ∨ O k - offP B O k = -1; omega
    · omega
    · show 0 ≤ t - F k; omega
    · show t - F k < _; omega
  · rw [if_neg g]
    exact ⟨offP_bd T.b T.o hq, .inl rfl⟩
set_option maxRecDepth 100000 in
set_option maxHeartbeats 3200000 in
theorem reading_any (B X : Int) (a : Option Addr) (n cap : Nat) (A O : Nat → Int) (K W t : Int) (w : World) (hr : Ents w a n A O) (T : Tab B X A O n) (hp : KW K W) (ht : -8000000000000000000 ≤ t ∧ t ≤ 8000000000000000000) :
    Calls Tryd.prog 27 #[.agg #[.int .i64 B, .int .i64 X, .slice a n cap], .agg #[.int .i64 K, .int .i64 W], .int .i64 t] w fun e w' => e = .returned (.int .i64 (rd B W O (frm K W A O) (W * 1000000000) n t)) ∧ Below w.heap.size w w' := by
  have b := bb2 (w := w) (.cells #[.int .i64 B, .int .i64 X, .slice a n cap] 24) (.cells #[.int .i64 K, .int .i64 W] 26)
  have CL := hide (locate_any B X a n cap A O K W t _ (hr.below b) T hp ht)
  have LW := hide fun W' => low2 (w := w) (a := .cells #[.int .i64 B, .int .i64 X, .slice a n cap] 24) (b := .cells #[.int .i64 K, .int .i64 W] 26) (W := (w.alloc (.cells #[.int .i64 B, .int .i64 X, .slice a n cap] 24)).alloc (.cells #[.int .i64 K, .int .i64 W] 26)) (W' := W') (Below.refl _ _)
  rw [rd_loc (pol_of T hp) t]
  obtain ⟨⟨l1, l2⟩, hd⟩ := loc_bd T hp t
  obtain ⟨w1, w2⟩ := pol_w hp
  obtain ⟨t1, t2⟩ := ht
  generalize (locV B O (frm K W A O) (W * 1000000000) n t).1 = x at *
  generalize (locV B O (frm K W A O) (W * 1000000000) n t).2.1 = y at *
  generalize (locV B O (frm K W A O) (W * 1000000000) n t).2.2 = z at *
  clear hr T hp b
  rcases hd with rfl | ⟨hy, v1, v2, v3⟩
  · rw [if_pos rfl]
    go_enter Tryd.func27, Tryd.ntmps27
    go_wp2_with fail
    refine CL.out.mono ?_
    rintro e w' ⟨rfl, h⟩
    have hb := boxB2 (LW.out _ h)
    have HB := hide (hb.alloc hb.size (.cells #[.int .i64 x, .int .i64 0, .int .i64 z] 62))
    clear h hb
    go_wp2
    go_ret
    exact ⟨rfl, HB.out⟩
  · have hy0 : (y != 0) = true := by rcases hy with rfl | rfl <;> rfl
    have hm : -172800000000000 ≤ y * z ∧ y * z ≤ 172800000000000 := by rcases hy with rfl | rfl <;> omega
    obtain ⟨m1, m2⟩ := hm
    have FL := hide fun V => Fx.Floor_any (y * z) W V v1 (by omega) (by omega)
    have hv : -172800000000000 ≤ y * z / W ∧ y * z / W ≤ 172800000000000 := by
      have fb := floor_bd (s := y) (x := z) (W := W) hy v1 v2 v3
      rcases hy with rfl | rfl
      · have := fb.1 rfl; omega
      · have := fb.2 rfl; omega
    obtain ⟨u1, u2⟩ := hv
    rw [if_neg (by rcases hy with rfl | rfl <;> omega)]
    have hw : IntKind.i64.wrap (y * z) = y * z := IntWalk.i64_in _ (by omega)
    generalize hq : y * z / W = v at *
    have HQ := hide hq
    clear hy hq
    go_enter Tryd.func27, Tryd.ntmps27
    go_wp2_with fail
    refine CL.out.mono ?_
    rintro e w' ⟨rfl, h⟩
    have hb := boxB2 (LW.out _ h)
    obtain ⟨_, _, _, _, d1, hs⟩ := cells5 (LW.out _ h)
    have hs2 : w.heap.size + 1 < w'.heap.size := by omega
    have HB := hide (hb.alloc hb.size (.cells #[.int .i64 x, .int .i64 y, .int .i64 z] 62))
    clear h hb hs
    go_wp2_with fail
    refine (FL.out _).mono ?_
    rintro e w2 ⟨rfl, m, rfl⟩
    go_wp2
    go_ret
    exact ⟨rfl, below_drewN HB.out m⟩
end Go.Proofs.YtnmpoeljjajdiaaDoor.Smr
