
/- The contract of layer 6: Check of the reference. -/
import Derived.Test.YtbekfofakpbhiaaDoorLeapB
import Derived.Test.YtbekfofakpbhiaaDoorQuiet
namespace Go.Proofs.YtbekfofakpbhiaaDoor.Leap
open Go.RowKit Aid Civ
theorem RCheck_far (B X : Int) (a : Option Addr) (n cap : Nat) (A O : Nat → Int) (w : World) (hr : Ents w a n A O) (h64 : ¬ 64 < n) (hf : ¬ (inB B (-1000) 1000 = true ∧ inB X (-8000000000) 8000000000 = true)) :
    Calls Tryd.prog 31 #[.agg #[.int .i64 B, .int .i64 X, .slice a n cap]] w fun e w' => e = .returned (.int .i64 (chkT B X A O n)) ∧ Below w.heap.size w w' := by
  have hn := hr.1
  have W1 := hide fun W => in_any B 1000 W (by omega) (by omega)
  have W2 := hide fun W => in_any X 8000000000 W (by omega) (by omega)
  have HF := hide (chkT_far (A := A) (O := O) h64 hf)
  have hb1 : Below w.heap.size w (w.alloc (.cells #[.int .i64 B, .int .i64 X, .slice a n cap] 43)) := (Below.refl _ _).alloc (Nat.le_refl _) _
  have hh : inB B (-1000) 1000 = false ∨ (inB B (-1000) 1000 = true ∧ inB X (-8000000000) 8000000000 = false) := by
    cases h1 : inB B (-1000) 1000 <;> cases h2 : inB X (-8000000000) 8000000000 <;> simp [h1, h2] at hf ⊢
  clear hf hr
  rcases hh with h1 | ⟨h1, h2⟩
  · rw [h1] at W1
    go_enter Tryd.func31, Tryd.ntmps31
    go_wp2_with (go_at_call 41; with_reducible refine (W1.out _).mono ?_; rintro e w' ⟨rfl, rfl⟩)
    go_ret
    exact ⟨ret_int HF.out, hb1⟩
  · rw [h1] at W1
    rw [h2] at W2
    go_enter Tryd.func31, Tryd.ntmps31
    go_wp2_with (first | (go_at_call 41; with_reducible refine (W1.out _).mono ?_; rintro e w' ⟨rfl, rfl⟩) | (go_at_call 41; with_reducible refine (W2.out _).mono ?_; rintro e w' ⟨rfl, rfl⟩))
    go_ret
    exact ⟨ret_int HF.out, hb1⟩
theorem RCheck_long (B X : Int) (a : Option Addr) (n cap : Nat) (A O : Nat → Int) (w : World) (hr : Ents w a n A O) (h64 : 64 < n) :
    Calls Tryd.prog 31 #[.agg #[.int .i64 B, .int .i64 X, .slice a n cap]] w fun e w' => e = .returned (.int .i64 (chkT B X A O n)) ∧ Below w.heap.size w w' := by
  have hn := hr.1
  have HF := hide (chkT_long (B := B) (X := X) (A := A) (O := O) h64)
  clear hr
  go_enter Tryd.func31, Tryd.ntmps31
  go_wp2
  go_ret
  exact ⟨ret_int HF.out, (Below.refl _ _).alloc (Nat.le_refl _) _⟩
theorem oldO_bd {B : Int} {O : Nat → Int} {k : Nat} (hB : -1000 ≤ B ∧ B ≤ 1000) (hO : ∀ i, i < k → -1000 ≤ O i ∧ O i ≤ 1000) : -1000 ≤ oldO B O k ∧ oldO B O k ≤ 1000 := by
  unfold oldO
  split
  · exact hB
  · exact hO (k - 1) (by omega)
theorem threeR (o x : Int) : (x != o + 1) = false ∧ (x = o + 1 ∨ x = o - 1) ∨ (x != o + 1) = true ∧ (x != o - 1) = false ∧ (x = o + 1 ∨ x = o - 1) ∨ (x != o + 1) = true ∧ (x != o - 1) = true ∧ ¬ (x = o + 1 ∨ x = o - 1) := by
  by_cases h1 : x = o + 1
  · exact .inl ⟨by simp [h1], .inl h1⟩
  · by_cases h2 : x = o - 1
    · exact .inr (.inl ⟨by simp [h1], by simp [h2], .inr h2⟩)
    · exact .inr (.inr ⟨by simp [h1], by simp [h2], by omega⟩)
set_option maxRecDepth 100000 in
set_option maxHeartbeats 6400000 in
theorem RCheck_loop (B X : Int) (a : Option Addr) (n cap : Nat) (A O : Nat → Int) (w : World) (hr : Ents w a n A O) (h64 : ¬ 64 < n) (hf : inB B (-1000) 1000 = true ∧ inB X (-8000000000) 8000000000 = true) :
    Calls Tryd.prog 31 #[.agg #[.int .i64 B, .int .i64 X, .slice a n cap]] w fun e w' => e = .returned (.int .i64 (chkT B X A O n)) ∧ Below w.heap.size w w' := by
  have hn := hr.1
  have W1 := hide fun W => in_any B 1000 W (by omega) (by omega)
  have W2 := hide fun W => in_any X 8000000000 W (by omega) (by omega)
  rw [hf.1] at W1
  rw [hf.2] at W2
  have HE := hide fun r => chkT_rng (A := A) (O := O) (n := n) h64 hf r
  have HG := hide fun r => chkT_ord (A := A) (O := O) (n := n) h64 hf r
  have HBB := hide (inB_iff.1 hf.1)
  have HR := hide hr
  have hs0 : (w.alloc (.cells #[.int .i64 B, .int .i64 X, .slice a n cap] 43)).heap.size = w.heap.size + 1 := by simp
  clear hf hr
  go_enter Tryd.func31, Tryd.ntmps31
  go_wp2_with (first | (go_at_call 41; with_reducible refine (W1.out _).mono ?_; rintro e w' ⟨rfl, rfl⟩) | (go_at_call 41; with_reducible refine (W2.out _).mono ?_; rintro e w' ⟨rfl, rfl⟩))
  go_loopw [3] (fun i wr => ∃ k : Nat, k ≤ n ∧ i = .int .i64 k ∧ firstE (rngE A O) k = 0 ∧ Below (w.heap.size + 1) (w.alloc (.cells #[.int .i64 B, .int .i64 X, .slice a n cap] 43)) wr) (fun i _ => n - (intOf i).toNat)
  case atStart => exact ⟨0, by omega, rfl, rfl, Below.refl _ _⟩
  case round =>
    clear W1 W2
    obtain ⟨k, hk, rfl, hf, hb⟩ := hrel
    have HF := hide hf
    clear hf
    obtain ⟨c0, c1, c2, hs⟩ := cells3 hb
    have hbw := boxB hb
    by_cases hlt' : k < n
    · obtain ⟨b, off, rfl, hlt, hc⟩ := HR.out.at_ (by omega)
      have hc0 : wr.cell? ⟨b, off + k * 2, none⟩ = some (.int .i64 (A k)) := (hbw.cell (p := ⟨b, off + k * 2, none⟩) hlt).trans (hc k hlt').1
      have hc1 : wr.cell? ⟨b, off + k * 2 + 1, none⟩ = some (.int .i64 (O k)) := (hbw.cell (p := ⟨b, off + k * 2 + 1, none⟩) hlt).trans (hc k hlt').2
      have hbl : b < wr.heap.size := by omega
      clear hc
      have V1 := hide fun W => in_any (A k) 8000000000 W (by omega) (by omega)
      have V2 := hide fun W => in_any (O k) 1000 W (by omega) (by omega)
      have hh : inB (A k) (-8000000000) 8000000000 = false ∨ (inB (A k) (-8000000000) 8000000000 = true ∧ inB (O k) (-1000) 1000 = false) ∨ (inB (A k) (-8000000000) 8000000000 = true ∧ inB (O k) (-1000) 1000 = true) := by
        cases h1 : inB (O k) (-1000) 1000 <;> cases h2 : inB (A k) (-8000000000) 8000000000 <;> simp
      rcases hh with h1 | ⟨h1, h2⟩ | ⟨h1, h2⟩
      · have HH := hide (HE.out (rng_hit HF.out hlt' (by simp [h1])))
        rw [h1] at V1
        clear h1
        go_wp2_with (go_at_call 41; with_reducible refine (V1.out _).mono ?_; rintro e w' ⟨rfl, rfl⟩)
        go_ret
        exact ⟨ret_int HH.out, hbw⟩
      · have HH := hide (HE.out (rng_hit HF.out hlt' (by simp [h2])))
        rw [h1] at V1
        rw [h2] at V2
        clear h1 h2
        go_wp2_with (first | (go_at_call 41; with_reducible refine (V1.out _).mono ?_; rintro e w' ⟨rfl, rfl⟩) | (go_at_call 41; with_reducible refine (V2.out _).mono ?_; rintro e w' ⟨rfl, rfl⟩))
        go_ret
        exact ⟨ret_int HH.out, hbw⟩
      · have HH := hide (rng_pass HF.out ⟨h2, h1⟩)
        rw [h1] at V1
        rw [h2] at V2
        clear h1 h2
        go_wp2_with (first | (go_at_call 41; with_reducible refine (V1.out _).mono ?_; rintro e w' ⟨rfl, rfl⟩) | (go_at_call 41; with_reducible refine (V2.out _).mono ?_; rintro e w' ⟨rfl, rfl⟩))
        go_roundw
        case rel => exact ⟨k + 1, by omega, by go_num, HH.out, hb⟩
        case measure => simp [intOf]; omega
    · have e : k = n := by omega
      rw [e] at HF
      have HG2 := hide (HG.out HF.out)
      have HRR := hide (fun i hi => rngE_ok (firstE_all HF.out i hi))
      clear HF HE HG hk e
      go_wp2
      clear hlt'
      go_loopw [4] (fun i wr => ∃ k : Nat, k ≤ n ∧ i = .int .i64 k ∧ firstE (ordE B A O) k = 0 ∧ Below (w.heap.size + 1) (w.alloc (.cells #[.int .i64 B, .int .i64 X, .slice a n cap] 43)) wr) (fun i _ => n - (intOf i).toNat)
      case atStart => exact ⟨0, by omega, rfl, rfl, hb⟩
      case round =>
        clear hb c0 c1 c2 hs hbw
        obtain ⟨k, hk, rfl, hf, hb⟩ := hrel
        have HF := hide hf
        clear hf
        obtain ⟨c0, c1, c2, hs⟩ := cells3 hb
        have hbw := boxB hb
        by_cases hlt' : k < n
        · obtain ⟨b, off, rfl, hlt, hc⟩ := HR.out.at_ (by omega)
          have hc0 : wr.cell? ⟨b, off + k * 2, none⟩ = some (.int .i64 (A k)) := (hbw.cell (p := ⟨b, off + k * 2, none⟩) hlt).trans (hc k hlt').1
          have hc1 : wr.cell? ⟨b, off + k * 2 + 1, none⟩ = some (.int .i64 (O k)) := (hbw.cell (p := ⟨b, off + k * 2 + 1, none⟩) hlt).trans (hc k hlt').2
          have hbl : b < wr.heap.size := by omega
          have HC := hide hc
          clear hc
          have hb2 := hb.alloc (by omega) (.cells #[.int .i64 (A k), .int .i64 (O k)] 36)
          have V1 := hide (begins_any (A k) (wr.alloc (.cells #[.int .i64 (A k), .int .i64 (O k)] 36)))
          have N1 := hide (Box2.new (T := 36) wr (A k) (O k))
          cases hg : begB (A k) with
          | false =>
            have HH := hide (ord_hit HF.out hlt' (ord7 hg) (by decide))
            rw [hg] at V1
            have HB2 := hide (boxB hb2)
            clear hg hb2 N1
            go_wp2_with fail
            refine V1.out.mono ?_
            rintro e w2 ⟨rfl, h2⟩
            have b2 := HB2.out.trans (h2.mono HB2.out.size)
            go_wp2
            go_ret
            exact ⟨ret_int (HH.out.trans HG2.out), b2⟩
          | true =>
            have HK := hide hg
            rw [hg] at V1
            have HB2 := hide hb2
            clear hg hb2
            go_wp2_with fail
            refine V1.out.mono ?_
            rintro e w2 ⟨rfl, h2⟩
            have b2 := HB2.out.trans (h2.mono (by have := HB2.out.size; simp at this ⊢; omega))
            obtain ⟨d0, d1, d2, ds⟩ := cells3 b2
            obtain ⟨n0, n1, ns⟩ := N1.out.step h2
            have B2 := hide b2
            have HR2 := hide (HR.out.below (boxB b2))
            have D := hide (based (Nat.le_refl _) fun W (g : Below w2.heap.size w2 W) => old_any B X (some ⟨b, off, none⟩) n cap A O k W (HR2.out.below g) hlt')
            have K := hide (fun (W : World) (g : Below w2.heap.size w2 W) => And.intro ((g.cell (p := ⟨w.heap.size, 0, none⟩) ds).trans d0) (And.intro ((g.cell (p := ⟨w.heap.size, 1, none⟩) ds).trans d1) (And.intro ((g.cell (p := ⟨w.heap.size, 2, none⟩) ds).trans d2) (And.intro ((g.cell (p := ⟨wr.heap.size, 1, none⟩) ns).trans n1) g))))
            have V3 := hide (threeR (oldO B O k) (O k))
            have ob := oldO_bd (k := k) HBB.out (fun i hi => (HRR.out i (Nat.lt_trans hi hlt')).1)
            have e1 : IntKind.i64.wrap (oldO B O k + 1) = oldO B O k + 1 := IntWalk.i64_in _ (by omega)
            have e2 : IntKind.i64.wrap (oldO B O k - 1) = oldO B O k - 1 := IntWalk.i64_in _ (by omega)
            generalize hov : oldO B O k = v at *
            have HOV := hide hov
            clear b2 h2 V1 N1 HB2 c0 c1 c2 hc0 hc1 hb hs hbw hs0 hov ob
            by_cases hk0 : k = 0
            · subst hk0
              go_wp2
              go_quiet (fail)
              go_wp2_with fail
              have hbq := below_drewN (Below.refl w2.heap.size w2) nq
              rcases V3.out with ⟨q1, HP⟩ | ⟨q1, q2, HP⟩ | ⟨q1, q2, HP⟩
              · obtain ⟨s0, s1, s2, s3, _⟩ := K.out _ (below_drewN (Below.refl w2.heap.size w2) nq)
                have hne := lt_some w2
                have y0 := fun V : Lt w2 => (K.out _ V.h).1
                have y1 := fun V : Lt w2 => (K.out _ V.h).2.1
                have y2 := fun V : Lt w2 => (K.out _ V.h).2.2.1
                have y3 := fun V : Lt w2 => (K.out _ V.h).2.2.2.1
                refine region_lt w2 (by kernel_rfl) (by kernel_rfl) hbq ?_
                repeat (go_big_quiet_step (first | (go_at_call 43; with_reducible exact call_lt (D.out _ (Lt.h _)))))
                refine wpQuiet_nil ?_
                intro _ hw'
                obtain ⟨V, rfl⟩ := hw'
                clear y0 y1 y2 y3 hne
                all_goals
                  go_wp2
                  have b3 := B2.out.trans (Below.mono V.h (by have := B2.out.size; simp at this ⊢; omega))
                  go_roundw
                  case rel => exact ⟨1, by omega, by first | rfl | go_num, step_pass HF.out (ord0 HK.out (by omega) (by rw [HOV.out]; exact HP)), b3⟩
                  case measure => simp [intOf]; omega
              · obtain ⟨s0, s1, s2, s3, _⟩ := K.out _ (below_drewN (Below.refl w2.heap.size w2) nq)
                have hne := lt_some w2
                have y0 := fun V : Lt w2 => (K.out _ V.h).1
                have y1 := fun V : Lt w2 => (K.out _ V.h).2.1
                have y2 := fun V : Lt w2 => (K.out _ V.h).2.2.1
                have y3 := fun V : Lt w2 => (K.out _ V.h).2.2.2.1
                refine region_lt w2 (by kernel_rfl) (by kernel_rfl) hbq ?_
                repeat (go_big_quiet_step (first | (go_at_call 43; with_reducible exact call_lt (D.out _ (Lt.h _)))))
                refine wpQuiet_nil ?_
                intro _ hw'
                obtain ⟨V, rfl⟩ := hw'
                clear y0 y1 y2 y3 hne
                all_goals
                  go_wp2
                  have b3 := B2.out.trans (Below.mono V.h (by have := B2.out.size; simp at this ⊢; omega))
                  go_roundw
                  case rel => exact ⟨1, by omega, by first | rfl | go_num, step_pass HF.out (ord0 HK.out (by omega) (by rw [HOV.out]; exact HP)), b3⟩
                  case measure => simp [intOf]; omega
              · obtain ⟨s0, s1, s2, s3, _⟩ := K.out _ (below_drewN (Below.refl w2.heap.size w2) nq)
                have hne := lt_some w2
                have y0 := fun V : Lt w2 => (K.out _ V.h).1
                have y1 := fun V : Lt w2 => (K.out _ V.h).2.1
                have y2 := fun V : Lt w2 => (K.out _ V.h).2.2.1
                have y3 := fun V : Lt w2 => (K.out _ V.h).2.2.2.1
                refine region_lt w2 (by kernel_rfl) (by kernel_rfl) hbq ?_
                repeat (go_big_quiet_step (first | (go_at_call 43; with_reducible exact call_lt (D.out _ (Lt.h _)))))
                refine wpQuiet_nil ?_
                intro _ hw'
                obtain ⟨V, rfl⟩ := hw'
                clear y0 y1 y2 y3 hne
                all_goals
                  go_wp2
                  have b3 := B2.out.trans (Below.mono V.h (by have := B2.out.size; simp at this ⊢; omega))
                  go_ret
                  exact ⟨ret_int ((ord_hit HF.out hlt' (ord3 HK.out (by omega) (by rw [HOV.out]; exact HP)) (by decide)).trans HG2.out), boxB b3⟩
            · have hz1 : decide ((0 : Int) < (k : Int)) = true := by simp; omega
              have hz3 : 0 < k := by omega
              have hbl2 : b < w2.heap.size := by omega
              have hcp := (HC.out (k - 1) (by omega)).1
              have hcp2 : w2.cell? ⟨b, off + (k - 1) * 2, none⟩ = some (.int .i64 (A (k - 1))) := ((boxB B2.out).cell (p := ⟨b, off + (k - 1) * 2, none⟩) hlt).trans hcp
              go_wp2
              go_quiet (fail)
              go_wp2_with fail
              · go_ret
                exact ⟨ret_int ((ord_hit HF.out hlt' (ord12 HK.out (by omega)) (by decide)).trans HG2.out), below_drewN (boxB B2.out) _⟩
              · skip
                have hbq := below_drewN (Below.refl w2.heap.size w2) nq
                rcases V3.out with ⟨q1, HP⟩ | ⟨q1, q2, HP⟩ | ⟨q1, q2, HP⟩
                · obtain ⟨s0, s1, s2, s3, _⟩ := K.out _ (below_drewN (Below.refl w2.heap.size w2) nq)
                  have hne := lt_some w2
                  have y0 := fun V : Lt w2 => (K.out _ V.h).1
                  have y1 := fun V : Lt w2 => (K.out _ V.h).2.1
                  have y2 := fun V : Lt w2 => (K.out _ V.h).2.2.1
                  have y3 := fun V : Lt w2 => (K.out _ V.h).2.2.2.1
                  refine region_lt w2 (by kernel_rfl) (by kernel_rfl) hbq ?_
                  repeat (go_big_quiet_step (first | (go_at_call 43; with_reducible exact call_lt (D.out _ (Lt.h _)))))
                  refine wpQuiet_nil ?_
                  intro _ hw'
                  obtain ⟨V, rfl⟩ := hw'
                  clear y0 y1 y2 y3 hne
                  all_goals
                    go_wp2
                    have b3 := B2.out.trans (Below.mono V.h (by have := B2.out.size; simp at this ⊢; omega))
                    go_roundw
                    case rel => exact ⟨k + 1, by omega, by go_num, step_pass HF.out (ord0 HK.out (by omega) (by rw [HOV.out]; exact HP)), b3⟩
                    case measure => simp [intOf]; omega
                · obtain ⟨s0, s1, s2, s3, _⟩ := K.out _ (below_drewN (Below.refl w2.heap.size w2) nq)
                  have hne := lt_some w2
                  have y0 := fun V : Lt w2 => (K.out _ V.h).1
                  have y1 := fun V : Lt w2 => (K.out _ V.h).2.1
                  have y2 := fun V : Lt w2 => (K.out _ V.h).2.2.1
                  have y3 := fun V : Lt w2 => (K.out _ V.h).2.2.2.1
                  refine region_lt w2 (by kernel_rfl) (by kernel_rfl) hbq ?_
                  repeat (go_big_quiet_step (first | (go_at_call 43; with_reducible exact call_lt (D.out _ (Lt.h _)))))
                  refine wpQuiet_nil ?_
                  intro _ hw'
                  obtain ⟨V, rfl⟩ := hw'
                  clear y0 y1 y2 y3 hne
                  all_goals
                    go_wp2
                    have b3 := B2.out.trans (Below.mono V.h (by have := B2.out.size; simp at this ⊢; omega))
                    go_roundw
                    case rel => exact ⟨k + 1, by omega, by go_num, step_pass HF.out (ord0 HK.out (by omega) (by rw [HOV.out]; exact HP)), b3⟩
                    case measure => simp [intOf]; omega
                · obtain ⟨s0, s1, s2, s3, _⟩ := K.out _ (below_drewN (Below.refl w2.heap.size w2) nq)
                  have hne := lt_some w2
                  have y0 := fun V : Lt w2 => (K.out _ V.h).1
                  have y1 := fun V : Lt w2 => (K.out _ V.h).2.1
                  have y2 := fun V : Lt w2 => (K.out _ V.h).2.2.1
                  have y3 := fun V : Lt w2 => (K.out _ V.h).2.2.2.1
                  refine region_lt w2 (by kernel_rfl) (by kernel_rfl) hbq ?_
                  repeat (go_big_quiet_step (first | (go_at_call 43; with_reducible exact call_lt (D.out _ (Lt.h _)))))
                  refine wpQuiet_nil ?_
                  intro _ hw'
                  obtain ⟨V, rfl⟩ := hw'
                  clear y0 y1 y2 y3 hne
                  all_goals
                    go_wp2
                    have b3 := B2.out.trans (Below.mono V.h (by have := B2.out.size; simp at this ⊢; omega))
                    go_ret
                    exact ⟨ret_int ((ord_hit HF.out hlt' (ord3 HK.out (by omega) (by rw [HOV.out]; exact HP)) (by decide)).trans HG2.out), boxB b3⟩
        · have e : k = n := by omega
          rw [e] at HF
          go_wp2
          go_ret
          exact ⟨ret_int (HF.out.symm.trans HG2.out), hbw⟩
end Go.Proofs.YtbekfofakpbhiaaDoor.Leap
