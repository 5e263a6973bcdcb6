
/- The contract of layer 6: Check of the package. -/
import Derived.Test.YtnmpoeljjajdiaaDoorLeapA
namespace Go.Proofs.YtnmpoeljjajdiaaDoor.Leap
open Go.RowKit Aid Civ
theorem rng_hit {A O : Nat → Int} {k n : Nat} (h0 : firstE (rngE A O) k = 0) (hk : k < n) (h : ¬ (inB (O k) (-1000) 1000 = true ∧ inB (A k) (-8000000000) 8000000000 = true)) : firstE (rngE A O) n ≠ 0 := by
  have e : rngE A O k = 3 := by unfold rngE; rw [if_neg h]
  rw [firstE_hit h0 hk (by omega), e]
  omega
theorem chkT_long {B X : Int} {A O : Nat → Int} {n : Nat} (h : 64 < n) : 6 = chkT B X A O n := by unfold chkT; rw [if_pos h]
theorem chkT_far {B X : Int} {A O : Nat → Int} {n : Nat} (h : ¬ 64 < n) (k : ¬ (inB B (-1000) 1000 = true ∧ inB X (-8000000000) 8000000000 = true)) : 3 = chkT B X A O n := by unfold chkT; rw [if_neg h, if_neg k]
theorem chkT_rng {B X : Int} {A O : Nat → Int} {n : Nat} (h : ¬ 64 < n) (k : inB B (-1000) 1000 = true ∧ inB X (-8000000000) 8000000000 = true) (r : firstE (rngE A O) n ≠ 0) : 3 = chkT B X A O n := by unfold chkT; rw [if_neg h, if_pos k, if_neg r]
theorem chkT_ord {B X : Int} {A O : Nat → Int} {n : Nat} (h : ¬ 64 < n) (k : inB B (-1000) 1000 = true ∧ inB X (-8000000000) 8000000000 = true) (r : firstE (rngE A O) n = 0) : firstE (ordE B A O) n = chkT B X A O n := by unfold chkT; rw [if_neg h, if_pos k, if_pos r]
theorem ord7 {B : Int} {A O : Nat → Int} {k : Nat} (h : begB (A k) = false) : ordE B A O k = 7 := by unfold ordE; rw [if_pos h]
theorem ord12 {B : Int} {A O : Nat → Int} {k : Nat} (h : begB (A k) = true) (h2 : 0 < k ∧ A k ≤ A (k - 1)) : ordE B A O k = 12 := by unfold ordE; rw [if_neg (by simp [h]), if_pos h2]
theorem ord3 {B : Int} {A O : Nat → Int} {k : Nat} (h : begB (A k) = true) (h2 : ¬ (0 < k ∧ A k ≤ A (k - 1))) (h3 : ¬ (O k = oldO B O k + 1 ∨ O k = oldO B O k - 1)) : ordE B A O k = 3 := by unfold ordE; rw [if_neg (by simp [h]), if_neg h2, if_neg h3]
theorem ord0 {B : Int} {A O : Nat → Int} {k : Nat} (h : begB (A k) = true) (h2 : ¬ (0 < k ∧ A k ≤ A (k - 1))) (h3 : O k = oldO B O k + 1 ∨ O k = oldO B O k - 1) : ordE B A O k = 0 := by unfold ordE; rw [if_neg (by simp [h]), if_neg h2, if_pos h3]
theorem ord_hit {B v : Int} {A O : Nat → Int} {k n : Nat} (h0 : firstE (ordE B A O) k = 0) (hk : k < n) (h : ordE B A O k = v) (hv : v ≠ 0) : v = firstE (ordE B A O) n := by
  rw [firstE_hit h0 hk (by omega), h]
theorem rng_pass {A O : Nat → Int} {k : Nat} (h0 : firstE (rngE A O) k = 0) (h : inB (O k) (-1000) 1000 = true ∧ inB (A k) (-8000000000) 8000000000 = true) : firstE (rngE A O) (k + 1) = 0 :=
  step_pass h0 (by unfold rngE; rw [if_pos h])
theorem Check_far (B X : Int) (a : Option Addr) (n cap : Nat) (A O : Nat → Int) (w : World) (hr : Ents w a n A O) (h64 : ¬ 64 < n) (hf : ¬ (inB B (-1000) 1000 = true ∧ inB X (-8000000000) 8000000000 = true)) :
    Calls Tryd.prog 11 #[.agg #[.int .i64 B, .int .i64 X, .slice a n cap]] w fun e w' => e = .returned (.int .i64 (chkT B X A O n)) ∧ Below w.heap.size w w' := by
  have hn := hr.1
  have W1 := hide fun W => within_any B 1000 W (by omega) (by omega)
  have W2 := hide fun W => within_any X 8000000000 W (by omega) (by omega)
  have HF := hide (chkT_far (A := A) (O := O) h64 hf)
  have hb1 : Below w.heap.size w (w.alloc (.cells #[.int .i64 B, .int .i64 X, .slice a n cap] 24)) := (Below.refl _ _).alloc (Nat.le_refl _) _
  have hh : inB B (-1000) 1000 = false ∨ (inB B (-1000) 1000 = true ∧ inB X (-8000000000) 8000000000 = false) := by
    cases h1 : inB B (-1000) 1000 <;> cases h2 : inB X (-8000000000) 8000000000 <;> simp [h1, h2] at hf ⊢
  clear hf hr
  rcases hh with h1 | ⟨h1, h2⟩
  · rw [h1] at W1
    go_enter Tryd.func11, Tryd.ntmps11
    go_wp2_with (go_at_call 23; with_reducible refine (W1.out _).mono ?_; rintro e w' ⟨rfl, rfl⟩)
    go_ret
    exact ⟨ret_int HF.out, hb1⟩
  · rw [h1] at W1
    rw [h2] at W2
    go_enter Tryd.func11, Tryd.ntmps11
    go_wp2_with (first | (go_at_call 23; with_reducible refine (W1.out _).mono ?_; rintro e w' ⟨rfl, rfl⟩) | (go_at_call 23; with_reducible refine (W2.out _).mono ?_; rintro e w' ⟨rfl, rfl⟩))
    go_ret
    exact ⟨ret_int HF.out, hb1⟩
theorem Check_long (B X : Int) (a : Option Addr) (n cap : Nat) (A O : Nat → Int) (w : World) (hr : Ents w a n A O) (h64 : 64 < n) :
    Calls Tryd.prog 11 #[.agg #[.int .i64 B, .int .i64 X, .slice a n cap]] w fun e w' => e = .returned (.int .i64 (chkT B X A O n)) ∧ Below w.heap.size w w' := by
  have hn := hr.1
  have HF := hide (chkT_long (B := B) (X := X) (A := A) (O := O) h64)
  clear hr
  go_enter Tryd.func11, Tryd.ntmps11
  go_wp2
  go_ret
  exact ⟨ret_int HF.out, (Below.refl _ _).alloc (Nat.le_refl _) _⟩
structure Box2 (w : World) (b : Nat) (x0 x1 : Int) : Prop where
  c0 : w.cell? ⟨b, 0, none⟩ = some (.int .i64 x0)
  c1 : w.cell? ⟨b, 1, none⟩ = some (.int .i64 x1)
  lt : b < w.heap.size
theorem Box2.step {w w' : World} {b : Nat} {x0 x1 : Int} (t : Box2 w b x0 x1) (h : Below w.heap.size w w') : Box2 w' b x0 x1 :=
  ⟨(h.cell (p := ⟨b, 0, none⟩) t.lt).trans t.c0, (h.cell (p := ⟨b, 1, none⟩) t.lt).trans t.c1, Nat.lt_of_lt_of_le t.lt h.size⟩
theorem Box2.new {T : TypeId} (w : World) (x0 x1 : Int) : Box2 (w.alloc (.cells #[.int .i64 x0, .int .i64 x1] T)) w.heap.size x0 x1 := ⟨by simp [go_sem], by simp [go_sem], by simp⟩
theorem below_drewN' {w w' : World} {m : Nat} (h : Below (w.drewN m).heap.size (w.drewN m) w') : Below w.heap.size w w' :=
  (below_drewN (Below.refl _ _) m).trans h
theorem three (o x : Int) : (x - o == 1) = true ∧ (x - o != 1) = false ∧ (x = o + 1 ∨ x = o - 1) ∨ (x - o != 1) = true ∧ (x - o != -1) = false ∧ (x = o + 1 ∨ x = o - 1) ∨ (x - o != 1) = true ∧ (x - o != -1) = true ∧ ¬ (x = o + 1 ∨ x = o - 1) := by
  by_cases h1 : x - o = 1
  · exact .inl ⟨by simp [h1], by simp [h1], by omega⟩
  · by_cases h2 : x - o = -1
    · exact .inr (.inl ⟨by simp [h1], by simp [h2], by omega⟩)
    · exact .inr (.inr ⟨by simp [h1], by simp [h2], by omega⟩)
set_option maxRecDepth 100000 in
set_option maxHeartbeats 6400000 in
theorem Check_loop (B X : Int) (a : Option Addr) (n cap : Nat) (A O : Nat → Int) (w : World) (l : Laid w) (hr : Ents w a n A O) (h64 : ¬ 64 < n) (hf : inB B (-1000) 1000 = true ∧ inB X (-8000000000) 8000000000 = true) :
    Calls Tryd.prog 11 #[.agg #[.int .i64 B, .int .i64 X, .slice a n cap]] w fun e w' => e = .returned (.int .i64 (chkT B X A O n)) ∧ Below w.heap.size w w' := by
  have hn := hr.1
  have W1 := hide fun W => within_any B 1000 W (by omega) (by omega)
  have W2 := hide fun W => within_any X 8000000000 W (by omega) (by omega)
  rw [hf.1] at W1
  rw [hf.2] at W2
  have HE := hide fun r => chkT_rng (A := A) (O := O) (n := n) h64 hf r
  have HG := hide fun r => chkT_ord (A := A) (O := O) (n := n) h64 hf r
  have HBB := hide (inB_iff.1 hf.1)
  have HR := hide hr
  have HL := hide (fun W (q : Below w.heap.size w W) => l.step q)
  have hs0 : (w.alloc (.cells #[.int .i64 B, .int .i64 X, .slice a n cap] 24)).heap.size = w.heap.size + 1 := by simp
  clear hf hr l
  go_enter Tryd.func11, Tryd.ntmps11
  go_wp2_with (first | (go_at_call 23; with_reducible refine (W1.out _).mono ?_; rintro e w' ⟨rfl, rfl⟩) | (go_at_call 23; with_reducible refine (W2.out _).mono ?_; rintro e w' ⟨rfl, rfl⟩))
  go_loopw [25] (fun i wr => ∃ k : Nat, k ≤ n ∧ i = .int .i64 k ∧ firstE (rngE A O) k = 0 ∧ Below (w.heap.size + 1) (w.alloc (.cells #[.int .i64 B, .int .i64 X, .slice a n cap] 24)) wr) (fun i _ => n - (intOf i).toNat)
  case atStart => exact ⟨0, by omega, rfl, rfl, Below.refl _ _⟩
  case round =>
    clear W1 W2
    obtain ⟨k, hk, rfl, hf, hb⟩ := hrel
    have HF := hide hf
    clear hf
    obtain ⟨c0, c1, c2, hs⟩ := cells3 hb
    have hbw := boxB hb
    by_cases hlt' : k < n
    · obtain ⟨b, off, rfl, hlt, hc⟩ := HR.out.at_ (by omega)
      have hc0 : wr.cell? ⟨b, off + k * 2, none⟩ = some (.int .i64 (A k)) := (hbw.cell (p := ⟨b, off + k * 2, none⟩) hlt).trans (hc k hlt').1
      have hc1 : wr.cell? ⟨b, off + k * 2 + 1, none⟩ = some (.int .i64 (O k)) := (hbw.cell (p := ⟨b, off + k * 2 + 1, none⟩) hlt).trans (hc k hlt').2
      have hbl : b < wr.heap.size := by omega
      clear hc
      have V1 := hide fun W => within_any (O k) 1000 W (by omega) (by omega)
      have V2 := hide fun W => within_any (A k) 8000000000 W (by omega) (by omega)
      have hh : inB (O k) (-1000) 1000 = false ∨ (inB (O k) (-1000) 1000 = true ∧ inB (A k) (-8000000000) 8000000000 = false) ∨ (inB (O k) (-1000) 1000 = true ∧ inB (A k) (-8000000000) 8000000000 = true) := by
        cases h1 : inB (O k) (-1000) 1000 <;> cases h2 : inB (A k) (-8000000000) 8000000000 <;> simp
      rcases hh with h1 | ⟨h1, h2⟩ | ⟨h1, h2⟩
      · have HH := hide (HE.out (rng_hit HF.out hlt' (by simp [h1])))
        rw [h1] at V1
        clear h1
        go_wp2_with (go_at_call 23; with_reducible refine (V1.out _).mono ?_; rintro e w' ⟨rfl, rfl⟩)
        go_ret
        exact ⟨ret_int HH.out, hbw.alloc (by omega) _⟩
      · have HH := hide (HE.out (rng_hit HF.out hlt' (by simp [h2])))
        rw [h1] at V1
        rw [h2] at V2
        clear h1 h2
        go_wp2_with (first | (go_at_call 23; with_reducible refine (V1.out _).mono ?_; rintro e w' ⟨rfl, rfl⟩) | (go_at_call 23; with_reducible refine (V2.out _).mono ?_; rintro e w' ⟨rfl, rfl⟩))
        go_ret
        exact ⟨ret_int HH.out, hbw.alloc (by omega) _⟩
      · have HH := hide (rng_pass HF.out ⟨h1, h2⟩)
        rw [h1] at V1
        rw [h2] at V2
        clear h1 h2
        go_wp2_with (first | (go_at_call 23; with_reducible refine (V1.out _).mono ?_; rintro e w' ⟨rfl, rfl⟩) | (go_at_call 23; with_reducible refine (V2.out _).mono ?_; rintro e w' ⟨rfl, rfl⟩))
        go_roundw
        case rel => exact ⟨k + 1, by omega, by go_num, HH.out, hb.alloc (by omega) _⟩
        case measure => simp [intOf]; omega
    · have e : k = n := by omega
      rw [e] at HF
      have HG2 := hide (HG.out HF.out)
      have HRR := hide (fun i hi => rngE_ok (firstE_all HF.out i hi))
      clear HF HE HG hk e
      go_wp2
      clear hlt'
      go_loopw [43] (fun i wr => ∃ k : Nat, k ≤ n ∧ i = .int .i64 k ∧ firstE (ordE B A O) k = 0 ∧ Below (w.heap.size + 1) (w.alloc (.cells #[.int .i64 B, .int .i64 X, .slice a n cap] 24)) wr) (fun i _ => n - (intOf i).toNat)
      case atStart => exact ⟨0, by omega, rfl, rfl, hb⟩
      case round =>
        clear hb c0 c1 c2 hs hbw
        obtain ⟨k, hk, rfl, hf, hb⟩ := hrel
        have HF := hide hf
        clear hf
        obtain ⟨c0, c1, c2, hs⟩ := cells3 hb
        have hbw := boxB hb
        by_cases hlt' : k < n
        · obtain ⟨b, off, rfl, hlt, hc⟩ := HR.out.at_ (by omega)
          have hc0 : wr.cell? ⟨b, off + k * 2, none⟩ = some (.int .i64 (A k)) := (hbw.cell (p := ⟨b, off + k * 2, none⟩) hlt).trans (hc k hlt').1
          have hc1 : wr.cell? ⟨b, off + k * 2 + 1, none⟩ = some (.int .i64 (O k)) := (hbw.cell (p := ⟨b, off + k * 2 + 1, none⟩) hlt).trans (hc k hlt').2
          have hbl : b < wr.heap.size := by omega
          have HC := hide hc
          clear hc
          have hb2 := hb.alloc (by omega) (.cells #[.int .i64 (A k), .int .i64 (O k)] 44)
          have V1 := hide (monthStart_any (A k) _ (HL.out _ (boxB hb2)))
          have N1 := hide (Box2.new (T := 44) wr (A k) (O k))
          cases hg : begB (A k) with
          | false =>
            have HH := hide (ord_hit HF.out hlt' (ord7 hg) (by decide))
            rw [hg] at V1
            have HB2 := hide (boxB hb2)
            clear hg hb2 N1
            go_wp2_with fail
            refine V1.out.mono ?_
            rintro e w2 ⟨rfl, h2⟩
            have b2 := HB2.out.trans (h2.mono HB2.out.size)
            go_wp2
            go_ret
            exact ⟨ret_int (HH.out.trans HG2.out), b2⟩
          | true =>
            have HK := hide hg
            rw [hg] at V1
            have HB2 := hide hb2
            clear hg hb2
            go_wp2_with fail
            refine V1.out.mono ?_
            rintro e w2 ⟨rfl, h2⟩
            have b2 := HB2.out.trans (h2.mono (by have := HB2.out.size; simp at this ⊢; omega))
            obtain ⟨d0, d1, d2, ds⟩ := cells3 b2
            obtain ⟨n0, n1, ns⟩ := N1.out.step h2
            have B2 := hide b2
            have HR2 := hide (HR.out.below (boxB b2))
            have s1 := fun m => step_any B X (some ⟨b, off, none⟩) n cap A O k (w2.drewN m) (HR2.out.below (below_drewN (Below.refl _ _) m)) hlt' HBB.out (fun i hi => (HRR.out i hi).1)
            have V3 := hide (three (oldO B O k) (O k))
            generalize O k - oldO B O k = v at *
            have S1 := hide s1
            clear s1 b2 h2 V1 N1 HB2 c0 c1 c2 hc0 hc1 hb hs hbw hs0
            by_cases hk0 : k = 0
            · subst hk0
              go_wp2
              go_quiet (fail)
              go_wp2_with fail
              refine (S1.out _).mono ?_
              rintro e w3 ⟨rfl, h3⟩
              have b3 := B2.out.trans ((below_drewN' h3).mono (by have := B2.out.size; simp at this ⊢; omega))
              have hs3 : w.heap.size + 1 ≤ w3.heap.size := by have := b3.size; simp at this; omega
              have Q := V3.out
              rcases Q with ⟨q0, q1, HP⟩ | ⟨q1, q2, HP⟩ | ⟨q1, q2, HP⟩
              · go_wp2
                go_roundw
                case rel => exact ⟨1, by omega, by first | rfl | go_num, step_pass HF.out (ord0 HK.out (by omega) HP), b3⟩
                case measure => simp [intOf]; omega
              · go_wp2
                go_roundw
                case rel => exact ⟨1, by omega, by first | rfl | go_num, step_pass HF.out (ord0 HK.out (by omega) HP), b3⟩
                case measure => simp [intOf]; omega
              · go_wp2
                go_ret
                exact ⟨ret_int ((ord_hit HF.out hlt' (ord3 HK.out (by omega) HP) (by decide)).trans HG2.out), boxB b3⟩
            · have hz1 : decide ((0 : Int) < (k : Int)) = true := by simp; omega
              have hz3 : 0 < k := by omega
              have hbl2 : b < w2.heap.size := by omega
              have hcp := (HC.out (k - 1) (by omega)).1
              have hcp2 : w2.cell? ⟨b, off + (k - 1) * 2, none⟩ = some (.int .i64 (A (k - 1))) := ((boxB B2.out).cell (p := ⟨b, off + (k - 1) * 2, none⟩) hlt).trans hcp
              go_wp2
              go_quiet (fail)
              go_wp2_with fail
              · go_ret
                exact ⟨ret_int ((ord_hit HF.out hlt' (ord12 HK.out (by omega)) (by decide)).trans HG2.out), below_drewN (boxB B2.out) _⟩
              · with_reducible refine (S1.out _).mono ?_
                rintro e w3 ⟨rfl, h3⟩
                have b3 := B2.out.trans ((below_drewN' h3).mono (by have := B2.out.size; simp at this ⊢; omega))
                have hs3 : w.heap.size + 1 ≤ w3.heap.size := by have := b3.size; simp at this; omega
                have Q := V3.out
                rcases Q with ⟨q0, q1, HP⟩ | ⟨q1, q2, HP⟩ | ⟨q1, q2, HP⟩
                · go_wp2
                  go_roundw
                  case rel => exact ⟨k + 1, by omega, by go_num, step_pass HF.out (ord0 HK.out (by omega) HP), b3⟩
                  case measure => simp [intOf]; omega
                · go_wp2
                  go_roundw
                  case rel => exact ⟨k + 1, by omega, by go_num, step_pass HF.out (ord0 HK.out (by omega) HP), b3⟩
                  case measure => simp [intOf]; omega
                · go_wp2
                  go_ret
                  exact ⟨ret_int ((ord_hit HF.out hlt' (ord3 HK.out (by omega) HP) (by decide)).trans HG2.out), boxB b3⟩
        · have e : k = n := by omega
          rw [e] at HF
          go_wp2
          go_ret
          exact ⟨ret_int (HF.out.symm.trans HG2.out), hbw⟩
end Go.Proofs.YtnmpoeljjajdiaaDoor.Leap
