/- The walk of the law SmearInverts. -/
import Derived.Test.YtnnfaejejnfckaaDoorSmrR
import Derived.Test.YtnnfaejejnfckaaDoorQuiet
namespace Go.Proofs.YtnnfaejejnfckaaDoor.Smr
open Go.RowKit Aid Civ Leap
/-- both of the Tai return the same -/
theorem tai_both (B X : Int) (a : Option Addr) (n cap : Nat) (A O : Nat → Int) (K W u : Int) : ∃ x y : Int,
    (∀ V, Laid V → Ents V a n A O → Calls Tryd.prog 16 #[.agg #[.int .i64 B, .int .i64 X, .slice a n cap], .agg #[.int .i64 K, .int .i64 W], .int .i64 u] V fun e w' => e = .returned (.tuple #[.int .i64 x, .int .i64 y]) ∧ Below V.heap.size V w') ∧
    (∀ V, Ents V a n A O → Calls Tryd.prog 17 #[.agg #[.int .i64 B, .int .i64 X, .slice a n cap], .agg #[.int .i64 K, .int .i64 W], .int .i64 u] V fun e w' => e = .returned (.tuple #[.int .i64 x, .int .i64 y]) ∧ Below V.heap.size V w') ∧
    (chkS B X A O n K W = 0 → instB u = true → (K = 1 → x = taiV 0 u (steT B A O n u) ∧ y = taiE 0 u (steT B A O n u)) ∧ (K ≠ 1 → ∃ r, CutAt (fun t => u ≤ rdT B A O n K W t) (loW u) (hiW u + 1) r ∧ x = taiV 0 u (winR (rdT B A O n K W) u r) ∧ y = taiE 0 u (winR (rdT B A O n K W) u r))) := by
  by_cases hK : K = 1
  · refine ⟨_, _, fun V l hr => Tai_step B X a n cap A O K W u V l hr hK, fun V hr => RTai_step B X a n cap A O K W u V hr hK, fun h _ => ⟨fun _ => by rw [h]; exact ⟨rfl, rfl⟩, fun h2 => absurd hK h2⟩⟩
  · by_cases hc : chkS B X A O n K W = 0 ∧ instB u = true
    · obtain ⟨T, hp⟩ := chkS_ok hc.1
      have P := pol_of T hp
      have W1 : 1 ≤ W := by unfold KW at hp; omega
      have hu := instB_iff.1 hc.2
      have b1 := loW_bd hu
      have b2 := loR_bd hu
      have mono : ∀ i j : Int, i ≤ j → u ≤ rdT B A O n K W i → u ≤ rdT B A O n K W j := fun i j hij h => by
        have := rd_mono P W1 hij
        unfold rdT at *
        omega
      obtain ⟨r, hr1⟩ := cut_ex (fun t => u ≤ rdT B A O n K W t) mono (a := loW u) (b := hiW u + 1) (by omega)
      obtain ⟨x, hx1⟩ := cut_ex (fun t => u ≤ rdT B A O n K W t) mono (a := loR u) (b := hiR u) (by omega)
      have near : ∀ t, -1000000000000 ≤ t - rdT B A O n K W t ∧ t - rdT B A O n K W t ≤ 1000000000000 := fun t => rd_near P (.inl W1) T.b T.o t
      have e := win_same near (c := chkS B X A O n K W) hc.2 hr1 hx1
      refine ⟨_, _, fun V l hr => Tai_win B X a n cap A O K W u r V l hr hK (fun _ _ => hr1), fun V hr => ?_, fun h _ => ⟨fun h2 => absurd h2 hK, fun _ => ⟨r, hr1, by rw [h]; exact ⟨rfl, rfl⟩⟩⟩⟩
      rw [e.1, e.2]
      exact RTai_win B X a n cap A O K W u x V hr hK (fun _ _ => hx1)
    · have e : taiV (chkS B X A O n K W) u (winR (rdT B A O n K W) u 0) = taiV (chkS B X A O n K W) u (winS (rdT B A O n K W) u 0) ∧ taiE (chkS B X A O n K W) u (winR (rdT B A O n K W) u 0) = taiE (chkS B X A O n K W) u (winS (rdT B A O n K W) u 0) := by
        unfold taiV taiE
        by_cases h0 : chkS B X A O n K W = 0
        · have h1 : instB u = false := by
            cases h : instB u with
            | false => rfl
            | true => exact absurd ⟨h0, h⟩ hc
          rw [h1]; simp
        · simp [h0]
      refine ⟨_, _, fun V l hr => Tai_win B X a n cap A O K W u 0 V l hr hK (fun h h2 => absurd ⟨h, h2⟩ hc), fun V hr => ?_, fun h h2 => absurd ⟨h, h2⟩ hc⟩
      rw [e.1, e.2]
      exact RTai_win B X a n cap A O K W u 0 V hr hK (fun h h2 => absurd ⟨h, h2⟩ hc)
set_option maxRecDepth 100000 in
set_option maxHeartbeats 3200000 in
theorem SmearInverts_walk (B X : Int) (a : Option Addr) (n cap : Nat) (A O : Nat → Int) (K W t : Int) (w : World) (hr : Ents w a n A O) (t1 : -9223372036854775808 ≤ t) (t2 : t ≤ 9223372036854775807) (l : Laid w) :
    Calls Tryd.prog 5 #[.agg #[.int .i64 B, .int .i64 X, .slice a n cap], .agg #[.int .i64 K, .int .i64 W], .int .i64 t] w fun e w' => e = .returned (.bool true) ∧ Below w.heap.size w w' := by
  obtain ⟨W0, hW0⟩ : ∃ W0, W0 = (w.alloc (.cells #[.int .i64 B, .int .i64 X, .slice a n cap] 24)).alloc (.cells #[.int .i64 K, .int .i64 W] 26) := ⟨_, rfl⟩
  have HB0 : Hid (Below (w.heap.size + 2) ((w.alloc (.cells #[.int .i64 B, .int .i64 X, .slice a n cap] 24)).alloc (.cells #[.int .i64 K, .int .i64 W] 26)) W0) := hide (by rw [hW0]; exact Below.refl _ _)
  have HH : Hid (W0 = (w.alloc (.cells #[.int .i64 B, .int .i64 X, .slice a n cap] 24)).alloc (.cells #[.int .i64 K, .int .i64 W] 26)) := hide hW0
  have HR := hide (fun V (g : Below W0.heap.size W0 V) => hr.below (boxB2 (low2 HB0.out g)))
  have HK := hide (fun (V : World) (g : Below W0.heap.size W0 V) => by
    obtain ⟨c0, c1, c2, d0, d1, _⟩ := cells5 (low2 HB0.out g)
    exact And.intro c0 (And.intro c1 (And.intro c2 (And.intro d0 (And.intro d1 g)))))
  have HF := hide (fun V (g : Below W0.heap.size W0 V) => boxB2 (low2 HB0.out g))
  have hb0 := Below.refl W0.heap.size W0
  have LL := hide (fun V (g : Below W0.heap.size W0 V) => l.step (HF.out V g))
  have CS := hide (based (Nat.le_refl _) fun V (_ : Below W0.heap.size W0 V) => small_any B X a n cap V _ rfl)
  have CW := hide (based (Nat.le_refl _) fun V (g : Below W0.heap.size W0 V) => awake_any V (LL.out V g))
  obtain ⟨x, y, ca, cb, _⟩ := tai_both B X a n cap A O K W t
  have CA := hide (based (Nat.le_refl _) fun V (g : Below W0.heap.size W0 V) => ca V (LL.out V g) (HR.out V g))
  have CB := hide (based (Nat.le_refl _) fun V (g : Below W0.heap.size W0 V) => cb V (HR.out V g))
  clear hW0 hr l ca cb
  by_cases h : n ≤ 80
  · rw [decide_eq_true h] at CS
    clear h
    go_enter Tryd.func5, Tryd.ntmps5
    go_wp2_with fail
    rw [← HH.out]
    with_reducible refine (CS.out _ hb0).mono ?_
    rintro e w1 ⟨rfl, b1⟩
    obtain ⟨c0, c1, c2, d0, d1, _⟩ := HK.out _ b1
    go_wp2_with fail
    with_reducible refine (CA.out _ b1).mono ?_
    rintro e w2 ⟨rfl, b2⟩
    clear c0 c1 c2 d0 d1
    obtain ⟨c0, c1, c2, d0, d1, _⟩ := HK.out _ b2
    go_wp2_with fail
    with_reducible refine (CB.out _ b2).mono ?_
    rintro e w3 ⟨rfl, b3⟩
    clear c0 c1 c2 d0 d1
    obtain ⟨c0, c1, c2, d0, d1, _⟩ := HK.out _ b3
    go_wp2_with fail
    with_reducible refine (CW.out _ b3).mono ?_
    rintro e w4 ⟨rfl, b4⟩
    clear c0 c1 c2 d0 d1
    have HFF := hide (HF.out _ b4)
    obtain ⟨c0, c1, c2, d0, d1, _⟩ := HK.out _ b4
    clear b1 b2 b3 b4
    go_wp2
    go_ret
    exact ⟨rfl, HFF.out⟩
  · rw [decide_eq_false h] at CS
    clear h CA CB
    go_enter Tryd.func5, Tryd.ntmps5
    go_wp2_with fail
    rw [← HH.out]
    with_reducible refine (CS.out _ hb0).mono ?_
    rintro e w1 ⟨rfl, b1⟩
    obtain ⟨c0, c1, c2, d0, d1, _⟩ := HK.out _ b1
    go_wp2_with fail
    with_reducible refine (CW.out _ b1).mono ?_
    rintro e w2 ⟨rfl, b2⟩
    clear c0 c1 c2 d0 d1
    have HFF := hide (HF.out _ b2)
    obtain ⟨c0, c1, c2, d0, d1, _⟩ := HK.out _ b2
    clear b1 b2
    go_wp2
    go_ret
    exact ⟨rfl, HFF.out⟩
end Go.Proofs.YtnnfaejejnfckaaDoor.Smr
