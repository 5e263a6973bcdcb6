/- The contracts of layer 7: place and gone of the reference. -/
import Derived.Test.YtnnfaejejnfckaaDoorSmrC
namespace Go.Proofs.YtnnfaejejnfckaaDoor.Smr
open Go.RowKit Aid Civ Leap
theorem frm_bgn (K W : Int) (A O : Nat → Int) (i : Nat) : frm K W A O i = bgn K W (A i) (O i) := rfl
set_option maxRecDepth 100000 in
set_option maxHeartbeats 3200000 in
theorem place_any (B X : Int) (a : Option Addr) (n cap : Nat) (A O : Nat → Int) (K W t : Int) (w : World) (hr : Ents w a n A O) (T : Tab B X A O n) (hp : KW K W) :
    Calls Tryd.prog 35 #[.agg #[.int .i64 B, .int .i64 X, .slice a n cap], .agg #[.int .i64 K, .int .i64 W], .int .i64 t] w fun e w' => e = .returned (.int .i64 (plc (frm K W A O) t n)) ∧ Below w.heap.size w w' := by
  have hn := hr.1
  have HT := hide T
  have HP := hide hp
  have HR := hide hr
  have n64 := T.n64
  clear T hp hr
  go_enter Tryd.func35, Tryd.ntmps35
  go_wp2
  go_loopw [7, 8] (fun c i wr => ∃ k : Nat, k ≤ n ∧ i = .int .i64 k ∧ c = .int .i64 (plc (frm K W A O) t k) ∧ Below (w.heap.size + 2) ((w.alloc (.cells #[.int .i64 B, .int .i64 X, .slice a n cap] 24)).alloc (.cells #[.int .i64 K, .int .i64 W] 26)) wr) (fun _ i _ => n - (intOf i).toNat)
  case atStart => exact ⟨0, by omega, rfl, rfl, Below.refl _ _⟩
  case round =>
    obtain ⟨k, hk, rfl, rfl, hb⟩ := hrel
    have HB := hide hb
    obtain ⟨c0, c1, c2, d0, d1, hs⟩ := cells5 hb
    have hbw := boxB2 hb
    clear hb
    by_cases hlt' : k < n
    · obtain ⟨b, off, rfl, hlt, hc⟩ := HR.out.at_ (by omega)
      have hc0 : wr.cell? ⟨b, off + k * 2, none⟩ = some (.int .i64 (A k)) := (hbw.cell (p := ⟨b, off + k * 2, none⟩) hlt).trans (hc k hlt').1
      have hc1 : wr.cell? ⟨b, off + k * 2 + 1, none⟩ = some (.int .i64 (O k)) := (hbw.cell (p := ⟨b, off + k * 2 + 1, none⟩) hlt).trans (hc k hlt').2
      have hbl : b < wr.heap.size := by omega
      have D := hide (based (Nat.le_refl _) fun V (_ : Below wr.heap.size wr V) => begin_any K W (A k) (O k) V HP.out (HT.out.a k hlt') (HT.out.o k hlt'))
      have k0 : (0 : Int) ≤ (k : Int) := by omega
      have k1 : (k : Int) < (n : Int) := by omega
      have hpl : plc (frm K W A O) t (k + 1) = if bgn K W (A k) (O k) ≤ t then k + 1 else plc (frm K W A O) t k := rfl
      have HPL := hide hpl
      have HK := hide (fun (V : World) (g : Below wr.heap.size wr V) => And.intro ((g.cell (p := ⟨w.heap.size, 2, none⟩) (by show w.heap.size < _; omega)).trans c2) (And.intro ((g.cell (p := ⟨w.heap.size + 1, 0, none⟩) (by show w.heap.size + 1 < _; omega)).trans d0) (And.intro ((g.cell (p := ⟨w.heap.size + 1, 1, none⟩) (by show w.heap.size + 1 < _; omega)).trans d1) (And.intro ((g.cell (p := ⟨b, off + k * 2, none⟩) hbl).trans hc0) (And.intro ((g.cell (p := ⟨b, off + k * 2 + 1, none⟩) hbl).trans hc1) g)))))
      clear hc hbw hpl hlt
      generalize bgn K W (A k) (O k) = f at *
      go_wp2
      have hbr := Below.refl wr.heap.size wr
      by_cases hle : f ≤ t
      · have hne := lt_some wr
        have y0 := fun V : Lt wr => (HK.out _ V.h).1
        have y1 := fun V : Lt wr => (HK.out _ V.h).2.1
        have y2 := fun V : Lt wr => (HK.out _ V.h).2.2.1
        have y3 := fun V : Lt wr => (HK.out _ V.h).2.2.2.1
        have y4 := fun V : Lt wr => (HK.out _ V.h).2.2.2.2.1
        refine region_lt wr (by kernel_rfl) (by kernel_rfl) (by assumption) ?_
        repeat (go_big_quiet_step (first | (go_at_call 48; with_reducible exact call_lt (D.out _ (Lt.h _)))))
        refine wpQuiet_nil ?_
        intro _ hw'
        obtain ⟨V, rfl⟩ := hw'
        have z0 := y0 V
        have z1 := y1 V
        have z2 := y2 V
        have z3 := y3 V
        have z4 := y4 V
        clear y0 y1 y2 y3 y4 hne
        have HB3 := hide (low2 HB.out V.h)
        go_wp2
        go_roundw
        case rel => exact ⟨k + 1, by omega, by go_num, by rw [HPL.out, if_pos hle]; go_num, HB3.out⟩
        case measure => simp [intOf]; omega
      · have hne := lt_some wr
        have y0 := fun V : Lt wr => (HK.out _ V.h).1
        have y1 := fun V : Lt wr => (HK.out _ V.h).2.1
        have y2 := fun V : Lt wr => (HK.out _ V.h).2.2.1
        have y3 := fun V : Lt wr => (HK.out _ V.h).2.2.2.1
        have y4 := fun V : Lt wr => (HK.out _ V.h).2.2.2.2.1
        refine region_lt wr (by kernel_rfl) (by kernel_rfl) (by assumption) ?_
        repeat (go_big_quiet_step (first | (go_at_call 48; with_reducible exact call_lt (D.out _ (Lt.h _)))))
        refine wpQuiet_nil ?_
        intro _ hw'
        obtain ⟨V, rfl⟩ := hw'
        have z0 := y0 V
        have z1 := y1 V
        have z2 := y2 V
        have z3 := y3 V
        have z4 := y4 V
        clear y0 y1 y2 y3 y4 hne
        have HB3 := hide (low2 HB.out V.h)
        go_wp2
        go_roundw
        case rel => exact ⟨k + 1, by omega, by go_num, by rw [HPL.out, if_neg (by omega)], HB3.out⟩
        case measure => simp [intOf]; omega
    · obtain rfl : k = n := by omega
      go_wp2
      go_ret
      exact ⟨rfl, hbw⟩
theorem gone_none (B X : Int) (a : Option Addr) (n cap : Nat) (K W t : Int) (w : World) :
    Calls Tryd.prog 34 #[.agg #[.int .i64 B, .int .i64 X, .slice a n cap], .agg #[.int .i64 K, .int .i64 W], .int .i64 0, .int .i64 t] w fun e w' => e = .returned (.tuple #[.int .i64 0, .bool false]) ∧ Below w.heap.size w w' := by
  go_enter Tryd.func34, Tryd.ntmps34
  go_wp2
  go_ret2
  exact ⟨rfl, bb2 _ _⟩
set_option maxRecDepth 100000 in
set_option maxHeartbeats 3200000 in
theorem gone_some (B X : Int) (a : Option Addr) (n cap : Nat) (A O : Nat → Int) (K W t : Int) (p : Nat) (w : World) (hr : Ents w a n A O) (T : Tab B X A O n) (hp : KW K W) (ht : -8000000000000000000 ≤ t ∧ t ≤ 8000000000000000000) (hp1 : 1 ≤ p) (hpn : p ≤ n) (hft : bgn K W (A (p - 1)) (O (p - 1)) ≤ t) (gb : Bool) (hgb : gb = decide (t < bgn K W (A (p - 1)) (O (p - 1)) + W * 1000000000)) :
    Calls Tryd.prog 34 #[.agg #[.int .i64 B, .int .i64 X, .slice a n cap], .agg #[.int .i64 K, .int .i64 W], .int .i64 p, .int .i64 t] w fun e w' => e = .returned (.tuple #[.int .i64 (if gb = true then t - bgn K W (A (p - 1)) (O (p - 1)) else 0), .bool gb]) ∧ Below w.heap.size w w' := by
  have hn := hr.1
  obtain ⟨t1, t2⟩ := ht
  have w172 : 0 ≤ W ∧ W ≤ 172800 := by unfold KW at hp; omega
  obtain ⟨w1, w2⟩ := w172
  have n64 := T.n64
  have fb : -9000000000000000000 ≤ bgn K W (A (p - 1)) (O (p - 1)) ∧ bgn K W (A (p - 1)) (O (p - 1)) ≤ 9000000000000000000 := by
    have := T.a (p - 1) (by omega)
    have := T.o (p - 1) (by omega)
    have := shf_bd (K := K) w1
    unfold bgn; omega
  have D0 := hide fun V => begin_any K W (A (p - 1)) (O (p - 1)) V hp (T.a (p - 1) (by omega)) (T.o (p - 1) (by omega))
  generalize bgn K W (A (p - 1)) (O (p - 1)) = f at *
  obtain ⟨f1, f2⟩ := fb
  obtain ⟨b, off, rfl, hlt, hc⟩ := hr.2 (by omega)
  have q0 : (0 : Int) ≤ (p : Int) - 1 := by omega
  have q1 : (p : Int) - 1 < (n : Int) := by omega
  have q3 : ((p : Int) - 1).toNat = p - 1 := by omega
  have hz : ((p : Int) == 0) = false := by simp; omega
  have hw : IntKind.i64.wrap ((p : Int) - 1) = (p : Int) - 1 := IntWalk.i64_in _ (by omega)
  obtain ⟨W0, hW0⟩ : ∃ W0, W0 = (w.alloc (.cells #[.int .i64 B, .int .i64 X, .slice (some ⟨b, off, none⟩) n cap] 24)).alloc (.cells #[.int .i64 K, .int .i64 W] 26) := ⟨_, rfl⟩
  have HB0 : Hid (Below (w.heap.size + 2) ((w.alloc (.cells #[.int .i64 B, .int .i64 X, .slice (some ⟨b, off, none⟩) n cap] 24)).alloc (.cells #[.int .i64 K, .int .i64 W] 26)) W0) := hide (by rw [hW0]; exact Below.refl _ _)
  obtain ⟨c0, c1, c2, d0, d1, hs⟩ := cells5 HB0.out
  have hc0 : W0.cell? ⟨b, off + (p - 1) * 2, none⟩ = some (.int .i64 (A (p - 1))) := ((boxB2 HB0.out).cell (p := ⟨b, off + (p - 1) * 2, none⟩) hlt).trans (hc (p - 1) (by omega)).1
  have hc1 : W0.cell? ⟨b, off + (p - 1) * 2 + 1, none⟩ = some (.int .i64 (O (p - 1))) := ((boxB2 HB0.out).cell (p := ⟨b, off + (p - 1) * 2 + 1, none⟩) hlt).trans (hc (p - 1) (by omega)).2
  have hbl : b < W0.heap.size := by omega
  have D := hide (based (Nat.le_refl _) fun V (_ : Below W0.heap.size W0 V) => D0.out V)
  have HK := hide (fun (V : World) (g : Below W0.heap.size W0 V) => And.intro ((g.cell (p := ⟨w.heap.size, 2, none⟩) (by show w.heap.size < _; omega)).trans c2) (And.intro ((g.cell (p := ⟨w.heap.size + 1, 0, none⟩) (by show w.heap.size + 1 < _; omega)).trans d0) (And.intro ((g.cell (p := ⟨w.heap.size + 1, 1, none⟩) (by show w.heap.size + 1 < _; omega)).trans d1) (And.intro ((g.cell (p := ⟨b, off + (p - 1) * 2, none⟩) hbl).trans hc0) (And.intro ((g.cell (p := ⟨b, off + (p - 1) * 2 + 1, none⟩) hbl).trans hc1) g)))))
  have hbr := Below.refl W0.heap.size W0
  have HH : Hid (W0 = (w.alloc (.cells #[.int .i64 B, .int .i64 X, .slice (some ⟨b, off, none⟩) n cap] 24)).alloc (.cells #[.int .i64 K, .int .i64 W] 26)) := hide hW0
  clear hr T hp hc hlt D0 hW0
  by_cases g : t < f + W * 1000000000
  · obtain rfl : gb = true := by rw [hgb]; exact decide_eq_true g
    have g2 : ¬ f ≤ t - W * 1000000000 := by omega
    clear hgb
    go_enter Tryd.func34, Tryd.ntmps34
    go_wp2
    rw [← HH.out]
    have hne := lt_some W0
    have y0 := fun V : Lt W0 => (HK.out _ V.h).1
    have y1 := fun V : Lt W0 => (HK.out _ V.h).2.1
    have y2 := fun V : Lt W0 => (HK.out _ V.h).2.2.1
    have y3 := fun V : Lt W0 => (HK.out _ V.h).2.2.2.1
    have y4 := fun V : Lt W0 => (HK.out _ V.h).2.2.2.2.1
    refine region_lt W0 (by kernel_rfl) (by kernel_rfl) (by assumption) ?_
    repeat (go_big_quiet_step (first | (go_at_call 48; with_reducible exact call_lt (D.out _ (Lt.h _)))))
    refine wpQuiet_nil ?_
    intro _ hw'
    obtain ⟨V, rfl⟩ := hw'
    have z0 := y0 V
    have z1 := y1 V
    have z2 := y2 V
    have z3 := y3 V
    have z4 := y4 V
    clear y0 y1 y2 y3 y4 hne
    have HB3 := hide (boxB2 (low2 HB0.out V.h))
    go_wp2
    go_ret2
    exact ⟨rfl, HB3.out⟩
  · obtain rfl : gb = false := by rw [hgb]; exact decide_eq_false g
    have g2 : f ≤ t - W * 1000000000 := by omega
    clear hgb
    go_enter Tryd.func34, Tryd.ntmps34
    go_wp2
    rw [← HH.out]
    have hne := lt_some W0
    have y0 := fun V : Lt W0 => (HK.out _ V.h).1
    have y1 := fun V : Lt W0 => (HK.out _ V.h).2.1
    have y2 := fun V : Lt W0 => (HK.out _ V.h).2.2.1
    have y3 := fun V : Lt W0 => (HK.out _ V.h).2.2.2.1
    have y4 := fun V : Lt W0 => (HK.out _ V.h).2.2.2.2.1
    refine region_lt W0 (by kernel_rfl) (by kernel_rfl) (by assumption) ?_
    repeat (go_big_quiet_step (first | (go_at_call 48; with_reducible exact call_lt (D.out _ (Lt.h _)))))
    refine wpQuiet_nil ?_
    intro _ hw'
    obtain ⟨V, rfl⟩ := hw'
    have z0 := y0 V
    have z1 := y1 V
    have z2 := y2 V
    have z3 := y3 V
    have z4 := y4 V
    clear y0 y1 y2 y3 y4 hne
    have HB3 := hide (boxB2 (low2 HB0.out V.h))
    go_wp2
    go_ret2
    exact ⟨rfl, HB3.out⟩
end Go.Proofs.YtnnfaejejnfckaaDoor.Smr
