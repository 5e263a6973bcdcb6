/- The contracts of layer 7: smooth and Tai of the reference. -/
import Derived.Test.YtnnfaejejnfckaaDoorSmrQ
namespace Go.Proofs.YtnnfaejejnfckaaDoor.Smr
open Go.RowKit Aid Civ Leap
theorem loR_bd {u : Int} (hu : -8000000000000000000 ≤ u ∧ u ≤ 8000000000000000000) : -8000000000000000000 ≤ loR u ∧ loR u ≤ hiR u ∧ hiR u ≤ 8000000000000000000 ∧ hiR u - loR u ≤ 4000000000000 := by
  unfold loR hiR mxI mnI
  split <;> split <;> omega
set_option maxRecDepth 100000 in
set_option maxHeartbeats 6400000 in
theorem smooth_any (B X : Int) (a : Option Addr) (n cap : Nat) (A O : Nat → Int) (K W u x : Int) (w : World) (hr : Ents w a n A O) (T : Tab B X A O n) (hp : KW K W) (hu : -8000000000000000000 ≤ u ∧ u ≤ 8000000000000000000) (hcut : CutAt (fun t => u ≤ rdT B A O n K W t) (loR u) (hiR u) x) :
    Calls Tryd.prog 32 #[.agg #[.int .i64 B, .int .i64 X, .slice a n cap], .agg #[.int .i64 K, .int .i64 W], .int .i64 u] w fun e w' => e = .returned (.tuple #[.int .i64 x, .bool (decide (u ≤ rdT B A O n K W x) && instB (rdT B A O n K W x))]) ∧ Below w.heap.size w w' := by
  obtain ⟨W0, hW0⟩ : ∃ W0, W0 = (w.alloc (.cells #[.int .i64 B, .int .i64 X, .slice a n cap] 24)).alloc (.cells #[.int .i64 K, .int .i64 W] 26) := ⟨_, rfl⟩
  have HB0 : Hid (Below (w.heap.size + 2) ((w.alloc (.cells #[.int .i64 B, .int .i64 X, .slice a n cap] 24)).alloc (.cells #[.int .i64 K, .int .i64 W] 26)) W0) := hide (by rw [hW0]; exact Below.refl _ _)
  have HH : Hid (W0 = (w.alloc (.cells #[.int .i64 B, .int .i64 X, .slice a n cap] 24)).alloc (.cells #[.int .i64 K, .int .i64 W] 26)) := hide hW0
  have HR := hide (fun V (g : Below W0.heap.size W0 V) => hr.below (boxB2 (low2 HB0.out g)))
  have HK := hide (fun (V : World) (g : Below W0.heap.size W0 V) => by
    obtain ⟨c0, c1, c2, d0, d1, _⟩ := cells5 (low2 HB0.out g)
    exact And.intro c0 (And.intro c1 (And.intro c2 (And.intro d0 (And.intro d1 g)))))
  have HF := hide (fun V (g : Below W0.heap.size W0 V) => boxB2 (low2 HB0.out g))
  have hb0 := Below.refl W0.heap.size W0
  obtain ⟨q1, q2, q3, q4⟩ := loR_bd hu
  obtain ⟨u1, u2⟩ := hu
  obtain ⟨z1, z2, z3⟩ := hcut
  have CR := hide (fun (t : Int) (ht : loR u ≤ t ∧ t ≤ hiR u) => based (Nat.le_refl _) fun V (g : Below W0.heap.size W0 V) => show Calls Tryd.prog 27 #[.agg #[.int .i64 B, .int .i64 X, .slice a n cap], .agg #[.int .i64 K, .int .i64 W], .int .i64 t] V fun e w' => e = .returned (.int .i64 (rdT B A O n K W t)) ∧ Below V.heap.size V w' from read_any B X a n cap A O K W t V (HR.out V g) T hp ⟨by omega, by omega⟩)
  have HZ := hide z3
  have HQ := hide (And.intro q1 (And.intro q2 (And.intro q3 q4)))
  generalize rdT B A O n K W = f at *
  clear hW0 hr T hp z3 q1 q2 q3 q4
  by_cases p1 : -8000000000000000000 < u - 2000000000000
  · have el : loR u = u - 2000000000000 := by unfold loR mxI; rw [if_pos p1]
    have HEL := hide el
    by_cases p2 : u + 2000000000000 < 8000000000000000000
    · have eh : hiR u = u + 2000000000000 := by unfold hiR mnI; rw [if_pos p2]
      have HEH := hide eh
      rw [el] at z1
      rw [eh] at z2
      clear el eh
      go_enter Tryd.func32, Tryd.ntmps32
      go_wp2
      rw [← HH.out]
      go_loopw [8, 9] (fun a b wr => ∃ lo hi : Int, a = .int .i64 lo ∧ b = .int .i64 hi ∧ loR u ≤ lo ∧ lo ≤ x ∧ x ≤ hi ∧ hi ≤ hiR u ∧ Below W0.heap.size W0 wr) (fun a b _ => (intOf b - intOf a).toNat)
      case atStart => exact ⟨_, _, rfl, rfl, by rw [HEL.out]; omega, by omega, by omega, by rw [HEH.out]; omega, hb0⟩
      case round =>
        obtain ⟨lo, hi, rfl, rfl, g1, g2, g3, g4, hb⟩ := hrel
        obtain ⟨v1, v2, v3, v4⟩ := HQ.out
        by_cases hlt : lo < hi
        · have e1 : (hi - lo).tdiv 2 = (hi - lo) / 2 := by rw [Int.tdiv_eq_ediv, if_pos (.inl (by omega))]; omega
          obtain ⟨m, hm⟩ : ∃ m, lo + (hi - lo) / 2 = m := ⟨_, rfl⟩
          have m1 : lo ≤ m := by omega
          have m2 : m < hi := by omega
          have C := hide (CR.out m ⟨by omega, by omega⟩ wr hb)
          have Z := hide (HZ.out m (by omega) (by omega))
          obtain ⟨c0, c1, c2, d0, d1, _⟩ := HK.out _ hb
          have HB := hide hb
          generalize f m = y at *
          clear hb
          by_cases hq : u ≤ y
          · have hx := Z.out.1 hq
            go_wp2_with fail
            with_reducible refine C.out.mono ?_
            rintro e w1 ⟨rfl, b1⟩
            have HB1 := hide b1
            clear b1
            go_wp2
            go_roundw
            case rel => exact ⟨lo, m, rfl, rfl, by omega, by omega, by omega, by omega, HB1.out⟩
            case measure => simp [intOf]; omega
          · have hx : ¬ x ≤ m := fun k => hq (Z.out.2 k)
            go_wp2_with fail
            with_reducible refine C.out.mono ?_
            rintro e w1 ⟨rfl, b1⟩
            have HB1 := hide b1
            clear b1
            go_wp2
            go_roundw
            case rel => exact ⟨m + 1, hi, rfl, rfl, by omega, by omega, by omega, by omega, HB1.out⟩
            case measure => simp [intOf]; omega
        · obtain rfl : lo = x := by omega
          have C := hide (CR.out lo ⟨by omega, by omega⟩)
          have CI := hide (based (Nat.le_refl _) fun V (_ : Below W0.heap.size W0 V) => (inside_any (f lo) V).mono fun _ w' (h : _ ∧ V = w') => And.intro h.1 (by rw [← h.2]; exact Below.refl _ _))
          obtain ⟨c0, c1, c2, d0, d1, _⟩ := HK.out _ hb
          obtain ⟨y, hy⟩ : ∃ y, f lo = y := ⟨_, rfl⟩
          rw [hy] at C CI
          have HY := hide hy
          clear CR HZ HQ hy
          go_wp2_with fail
          with_reducible refine (C.out _ hb).mono ?_
          rintro e w1 ⟨rfl, b1⟩
          clear c0 c1 c2 d0 d1
          obtain ⟨c0, c1, c2, d0, d1, _⟩ := HK.out _ b1
          by_cases hq : u ≤ y
          · go_wp2_with fail
            with_reducible refine (C.out _ b1).mono ?_
            rintro e w2 ⟨rfl, b2⟩
            go_wp2_with fail
            with_reducible refine (CI.out _ b2).mono ?_
            rintro e w3 ⟨rfl, b3⟩
            have HFF := hide (HF.out _ b3)
            clear b1 b2 b3 c0 c1 c2 d0 d1 hb
            go_wp2
            go_ret2
            exact ⟨by rw [HY.out, decide_eq_true hq, Bool.true_and]; rfl, HFF.out⟩
          · have HFF := hide (HF.out _ b1)
            clear b1 hb
            go_wp2
            go_ret2
            exact ⟨by rw [HY.out, decide_eq_false (show ¬ u ≤ y by omega), Bool.false_and]; rfl, HFF.out⟩
    · have eh : hiR u = 8000000000000000000 := by unfold hiR mnI; rw [if_neg p2]
      have HEH := hide eh
      rw [el] at z1
      rw [eh] at z2
      clear el eh
      go_enter Tryd.func32, Tryd.ntmps32
      go_wp2
      rw [← HH.out]
      go_loopw [8, 9] (fun a b wr => ∃ lo hi : Int, a = .int .i64 lo ∧ b = .int .i64 hi ∧ loR u ≤ lo ∧ lo ≤ x ∧ x ≤ hi ∧ hi ≤ hiR u ∧ Below W0.heap.size W0 wr) (fun a b _ => (intOf b - intOf a).toNat)
      case atStart => exact ⟨_, _, rfl, rfl, by rw [HEL.out]; omega, by omega, by omega, by rw [HEH.out]; omega, hb0⟩
      case round =>
        obtain ⟨lo, hi, rfl, rfl, g1, g2, g3, g4, hb⟩ := hrel
        obtain ⟨v1, v2, v3, v4⟩ := HQ.out
        by_cases hlt : lo < hi
        · have e1 : (hi - lo).tdiv 2 = (hi - lo) / 2 := by rw [Int.tdiv_eq_ediv, if_pos (.inl (by omega))]; omega
          obtain ⟨m, hm⟩ : ∃ m, lo + (hi - lo) / 2 = m := ⟨_, rfl⟩
          have m1 : lo ≤ m := by omega
          have m2 : m < hi := by omega
          have C := hide (CR.out m ⟨by omega, by omega⟩ wr hb)
          have Z := hide (HZ.out m (by omega) (by omega))
          obtain ⟨c0, c1, c2, d0, d1, _⟩ := HK.out _ hb
          have HB := hide hb
          generalize f m = y at *
          clear hb
          by_cases hq : u ≤ y
          · have hx := Z.out.1 hq
            go_wp2_with fail
            with_reducible refine C.out.mono ?_
            rintro e w1 ⟨rfl, b1⟩
            have HB1 := hide b1
            clear b1
            go_wp2
            go_roundw
            case rel => exact ⟨lo, m, rfl, rfl, by omega, by omega, by omega, by omega, HB1.out⟩
            case measure => simp [intOf]; omega
          · have hx : ¬ x ≤ m := fun k => hq (Z.out.2 k)
            go_wp2_with fail
            with_reducible refine C.out.mono ?_
            rintro e w1 ⟨rfl, b1⟩
            have HB1 := hide b1
            clear b1
            go_wp2
            go_roundw
            case rel => exact ⟨m + 1, hi, rfl, rfl, by omega, by omega, by omega, by omega, HB1.out⟩
            case measure => simp [intOf]; omega
        · obtain rfl : lo = x := by omega
          have C := hide (CR.out lo ⟨by omega, by omega⟩)
          have CI := hide (based (Nat.le_refl _) fun V (_ : Below W0.heap.size W0 V) => (inside_any (f lo) V).mono fun _ w' (h : _ ∧ V = w') => And.intro h.1 (by rw [← h.2]; exact Below.refl _ _))
          obtain ⟨c0, c1, c2, d0, d1, _⟩ := HK.out _ hb
          obtain ⟨y, hy⟩ : ∃ y, f lo = y := ⟨_, rfl⟩
          rw [hy] at C CI
          have HY := hide hy
          clear CR HZ HQ hy
          go_wp2_with fail
          with_reducible refine (C.out _ hb).mono ?_
          rintro e w1 ⟨rfl, b1⟩
          clear c0 c1 c2 d0 d1
          obtain ⟨c0, c1, c2, d0, d1, _⟩ := HK.out _ b1
          by_cases hq : u ≤ y
          · go_wp2_with fail
            with_reducible refine (C.out _ b1).mono ?_
            rintro e w2 ⟨rfl, b2⟩
            go_wp2_with fail
            with_reducible refine (CI.out _ b2).mono ?_
            rintro e w3 ⟨rfl, b3⟩
            have HFF := hide (HF.out _ b3)
            clear b1 b2 b3 c0 c1 c2 d0 d1 hb
            go_wp2
            go_ret2
            exact ⟨by rw [HY.out, decide_eq_true hq, Bool.true_and]; rfl, HFF.out⟩
          · have HFF := hide (HF.out _ b1)
            clear b1 hb
            go_wp2
            go_ret2
            exact ⟨by rw [HY.out, decide_eq_false (show ¬ u ≤ y by omega), Bool.false_and]; rfl, HFF.out⟩
  · have el : loR u = -8000000000000000000 := by unfold loR mxI; rw [if_neg p1]
    have HEL := hide el
    have p2 : u + 2000000000000 < 8000000000000000000 := by omega
    have eh : hiR u = u + 2000000000000 := by unfold hiR mnI; rw [if_pos p2]
    have HEH := hide eh
    rw [el] at z1
    rw [eh] at z2
    clear el eh
    go_enter Tryd.func32, Tryd.ntmps32
    go_wp2
    rw [← HH.out]
    go_loopw [8, 9] (fun a b wr => ∃ lo hi : Int, a = .int .i64 lo ∧ b = .int .i64 hi ∧ loR u ≤ lo ∧ lo ≤ x ∧ x ≤ hi ∧ hi ≤ hiR u ∧ Below W0.heap.size W0 wr) (fun a b _ => (intOf b - intOf a).toNat)
    case atStart => exact ⟨_, _, rfl, rfl, by rw [HEL.out]; omega, by omega, by omega, by rw [HEH.out]; omega, hb0⟩
    case round =>
      obtain ⟨lo, hi, rfl, rfl, g1, g2, g3, g4, hb⟩ := hrel
      obtain ⟨v1, v2, v3, v4⟩ := HQ.out
      by_cases hlt : lo < hi
      · have e1 : (hi - lo).tdiv 2 = (hi - lo) / 2 := by rw [Int.tdiv_eq_ediv, if_pos (.inl (by omega))]; omega
        obtain ⟨m, hm⟩ : ∃ m, lo + (hi - lo) / 2 = m := ⟨_, rfl⟩
        have m1 : lo ≤ m := by omega
        have m2 : m < hi := by omega
        have C := hide (CR.out m ⟨by omega, by omega⟩ wr hb)
        have Z := hide (HZ.out m (by omega) (by omega))
        obtain ⟨c0, c1, c2, d0, d1, _⟩ := HK.out _ hb
        have HB := hide hb
        generalize f m = y at *
        clear hb
        by_cases hq : u ≤ y
        · have hx := Z.out.1 hq
          go_wp2_with fail
          with_reducible refine C.out.mono ?_
          rintro e w1 ⟨rfl, b1⟩
          have HB1 := hide b1
          clear b1
          go_wp2
          go_roundw
          case rel => exact ⟨lo, m, rfl, rfl, by omega, by omega, by omega, by omega, HB1.out⟩
          case measure => simp [intOf]; omega
        · have hx : ¬ x ≤ m := fun k => hq (Z.out.2 k)
          go_wp2_with fail
          with_reducible refine C.out.mono ?_
          rintro e w1 ⟨rfl, b1⟩
          have HB1 := hide b1
          clear b1
          go_wp2
          go_roundw
          case rel => exact ⟨m + 1, hi, rfl, rfl, by omega, by omega, by omega, by omega, HB1.out⟩
          case measure => simp [intOf]; omega
      · obtain rfl : lo = x := by omega
        have C := hide (CR.out lo ⟨by omega, by omega⟩)
        have CI := hide (based (Nat.le_refl _) fun V (_ : Below W0.heap.size W0 V) => (inside_any (f lo) V).mono fun _ w' (h : _ ∧ V = w') => And.intro h.1 (by rw [← h.2]; exact Below.refl _ _))
        obtain ⟨c0, c1, c2, d0, d1, _⟩ := HK.out _ hb
        obtain ⟨y, hy⟩ : ∃ y, f lo = y := ⟨_, rfl⟩
        rw [hy] at C CI
        have HY := hide hy
        clear CR HZ HQ hy
        go_wp2_with fail
        with_reducible refine (C.out _ hb).mono ?_
        rintro e w1 ⟨rfl, b1⟩
        clear c0 c1 c2 d0 d1
        obtain ⟨c0, c1, c2, d0, d1, _⟩ := HK.out _ b1
        by_cases hq : u ≤ y
        · go_wp2_with fail
          with_reducible refine (C.out _ b1).mono ?_
          rintro e w2 ⟨rfl, b2⟩
          go_wp2_with fail
          with_reducible refine (CI.out _ b2).mono ?_
          rintro e w3 ⟨rfl, b3⟩
          have HFF := hide (HF.out _ b3)
          clear b1 b2 b3 c0 c1 c2 d0 d1 hb
          go_wp2
          go_ret2
          exact ⟨by rw [HY.out, decide_eq_true hq, Bool.true_and]; rfl, HFF.out⟩
        · have HFF := hide (HF.out _ b1)
          clear b1 hb
          go_wp2
          go_ret2
          exact ⟨by rw [HY.out, decide_eq_false (show ¬ u ≤ y by omega), Bool.false_and]; rfl, HFF.out⟩
set_option maxRecDepth 100000 in
set_option maxHeartbeats 6400000 in
theorem RTai_step (B X : Int) (a : Option Addr) (n cap : Nat) (A O : Nat → Int) (K W u : Int) (w : World) (hr : Ents w a n A O) (hK : K = 1) :
    Calls Tryd.prog 17 #[.agg #[.int .i64 B, .int .i64 X, .slice a n cap], .agg #[.int .i64 K, .int .i64 W], .int .i64 u] w fun e w' => e = .returned (.tuple #[.int .i64 (taiV (chkS B X A O n K W) u (steT B A O n u)), .int .i64 (taiE (chkS B X A O n K W) u (steT B A O n u))]) ∧ Below w.heap.size w w' := by
  obtain ⟨W0, hW0⟩ : ∃ W0, W0 = (w.alloc (.cells #[.int .i64 B, .int .i64 X, .slice a n cap] 24)).alloc (.cells #[.int .i64 K, .int .i64 W] 26) := ⟨_, rfl⟩
  have HB0 : Hid (Below (w.heap.size + 2) ((w.alloc (.cells #[.int .i64 B, .int .i64 X, .slice a n cap] 24)).alloc (.cells #[.int .i64 K, .int .i64 W] 26)) W0) := hide (by rw [hW0]; exact Below.refl _ _)
  have HH : Hid (W0 = (w.alloc (.cells #[.int .i64 B, .int .i64 X, .slice a n cap] 24)).alloc (.cells #[.int .i64 K, .int .i64 W] 26)) := hide hW0
  have HR := hide (fun V (g : Below W0.heap.size W0 V) => hr.below (boxB2 (low2 HB0.out g)))
  have HK := hide (fun (V : World) (g : Below W0.heap.size W0 V) => by
    obtain ⟨c0, c1, c2, d0, d1, _⟩ := cells5 (low2 HB0.out g)
    exact And.intro c0 (And.intro c1 (And.intro c2 (And.intro d0 (And.intro d1 g)))))
  have HF := hide (fun V (g : Below W0.heap.size W0 V) => boxB2 (low2 HB0.out g))
  have hb0 := Below.refl W0.heap.size W0
  have CC := hide (based (Nat.le_refl _) fun V (g : Below W0.heap.size W0 V) => RCheck_any B X a n cap A O K W V (HR.out V g))
  have CI := hide (based (Nat.le_refl _) fun V (_ : Below W0.heap.size W0 V) => (inside_any u V).mono fun _ w' (h : _ ∧ V = w') => And.intro h.1 (by rw [← h.2]; exact Below.refl _ _))
  have HT := hide (fun (h : chkS B X A O n K W = 0) => chkS_ok h)
  subst hK
  rcases tai_ways (chkS B X A O n 1 W) u (steT B A O n u) with ⟨h1, h2, e1, e2⟩ | ⟨h0, h1, e1, e2⟩ | ⟨h0, h1, h2, e1, e2⟩ | ⟨h0, h1, h2, e1, e2⟩
  · rw [e1, e2]
    generalize chkS B X A O n 1 W = c at *
    clear CI e1 e2 h2 hW0 hr HT
    go_enter Tryd.func17, Tryd.ntmps17
    go_wp2_with fail
    rw [← HH.out]
    with_reducible refine (CC.out _ hb0).mono ?_
    rintro e w1 ⟨rfl, b1⟩
    have HFF := hide (HF.out _ b1)
    obtain ⟨c0, c1, c2, d0, d1, _⟩ := HK.out _ b1
    clear b1
    go_wp2
    go_ret2
    exact ⟨rfl, HFF.out⟩
  · rw [e1, e2]
    rw [h1] at CI
    rw [h0] at CC
    clear e1 e2 h1 h0 hW0 hr HT
    go_enter Tryd.func17, Tryd.ntmps17
    go_wp2_with fail
    rw [← HH.out]
    with_reducible refine (CC.out _ hb0).mono ?_
    rintro e w1 ⟨rfl, b1⟩
    obtain ⟨c0, c1, c2, d0, d1, _⟩ := HK.out _ b1
    go_wp2_with fail
    with_reducible refine (CI.out _ b1).mono ?_
    rintro e w2 ⟨rfl, b2⟩
    clear c0 c1 c2 d0 d1
    have HFF := hide (HF.out _ b2)
    obtain ⟨c0, c1, c2, d0, d1, _⟩ := HK.out _ b2
    clear b1 b2
    go_wp2
    go_ret2
    exact ⟨rfl, HFF.out⟩
  · rw [e1, e2]
    clear e1 e2
    obtain ⟨T, hp⟩ := HT.out h0
    obtain rfl : W = 0 := by unfold KW at hp; omega
    have CN := hide (based (Nat.le_refl _) fun V (g : Below W0.heap.size W0 V) => Rstep_no B X a n cap A O u V (HR.out V g) T h1)
    have CY := hide (based (Nat.le_refl _) fun V (g : Below W0.heap.size W0 V) => Rstep_yes B X a n cap A O u V (HR.out V g) T h1)
    rw [h1] at CI
    rw [h0] at CC
    unfold steT at *
    generalize stk (okS B A O n u) (taS B O u) (n + 1) = r1 at *
    generalize stk (okG B A O n u) (nxS B A O u) (n + 1) = r2 at *
    obtain ⟨y1, s1⟩ := r1
    obtain ⟨y2, s2⟩ := r2
    clear h1 h0 hW0 hr HT T hp
    cases s1 with
    | true => exact absurd h2 (by simp)
    | false =>
      have h3 : s2 = false := h2
      subst h3
      clear h2
      go_enter Tryd.func17, Tryd.ntmps17
      go_wp2_with fail
      rw [← HH.out]
      with_reducible refine (CC.out _ hb0).mono ?_
      rintro e w1 ⟨rfl, b1⟩
      obtain ⟨c0, c1, c2, d0, d1, _⟩ := HK.out _ b1
      go_wp2_with fail
      with_reducible refine (CI.out _ b1).mono ?_
      rintro e w2 ⟨rfl, b2⟩
      clear c0 c1 c2 d0 d1
      obtain ⟨c0, c1, c2, d0, d1, _⟩ := HK.out _ b2
      go_wp2_with fail
      with_reducible refine (CN.out _ b2).mono ?_
      rintro e w3 ⟨rfl, b3⟩
      clear c0 c1 c2 d0 d1
      obtain ⟨c0, c1, c2, d0, d1, _⟩ := HK.out _ b3
      go_wp2_with fail
      with_reducible refine (CY.out _ b3).mono ?_
      rintro e w4 ⟨rfl, b4⟩
      clear c0 c1 c2 d0 d1
      have HFF := hide (HF.out _ b4)
      obtain ⟨c0, c1, c2, d0, d1, _⟩ := HK.out _ b4
      clear b1 b2 b3 b4
      go_wp2
      go_ret2
      exact ⟨rfl, HFF.out⟩
  · rw [e1, e2]
    clear e1 e2
    obtain ⟨T, hp⟩ := HT.out h0
    obtain rfl : W = 0 := by unfold KW at hp; omega
    have CN := hide (based (Nat.le_refl _) fun V (g : Below W0.heap.size W0 V) => Rstep_no B X a n cap A O u V (HR.out V g) T h1)
    have CY := hide (based (Nat.le_refl _) fun V (g : Below W0.heap.size W0 V) => Rstep_yes B X a n cap A O u V (HR.out V g) T h1)
    rw [h1] at CI
    rw [h0] at CC
    unfold steT at *
    generalize stk (okS B A O n u) (taS B O u) (n + 1) = r1 at *
    generalize stk (okG B A O n u) (nxS B A O u) (n + 1) = r2 at *
    obtain ⟨y1, s1⟩ := r1
    obtain ⟨y2, s2⟩ := r2
    clear h1 h0 hW0 hr HT T hp
    cases s1 with
    | true =>
      clear h2
      show Calls _ _ _ _ fun e w' => e = .returned (.tuple #[.int .i64 y1, .int .i64 0]) ∧ _
      go_enter Tryd.func17, Tryd.ntmps17
      go_wp2_with fail
      rw [← HH.out]
      with_reducible refine (CC.out _ hb0).mono ?_
      rintro e w1 ⟨rfl, b1⟩
      obtain ⟨c0, c1, c2, d0, d1, _⟩ := HK.out _ b1
      go_wp2_with fail
      with_reducible refine (CI.out _ b1).mono ?_
      rintro e w2 ⟨rfl, b2⟩
      clear c0 c1 c2 d0 d1
      obtain ⟨c0, c1, c2, d0, d1, _⟩ := HK.out _ b2
      go_wp2_with fail
      with_reducible refine (CN.out _ b2).mono ?_
      rintro e w3 ⟨rfl, b3⟩
      clear c0 c1 c2 d0 d1
      have HFF := hide (HF.out _ b3)
      obtain ⟨c0, c1, c2, d0, d1, _⟩ := HK.out _ b3
      clear b1 b2 b3
      go_wp2
      go_ret2
      exact ⟨rfl, HFF.out⟩
    | false =>
      have h3 : s2 = true := h2
      subst h3
      clear h2
      show Calls _ _ _ _ fun e w' => e = .returned (.tuple #[.int .i64 y2, .int .i64 0]) ∧ _
      go_enter Tryd.func17, Tryd.ntmps17
      go_wp2_with fail
      rw [← HH.out]
      with_reducible refine (CC.out _ hb0).mono ?_
      rintro e w1 ⟨rfl, b1⟩
      obtain ⟨c0, c1, c2, d0, d1, _⟩ := HK.out _ b1
      go_wp2_with fail
      with_reducible refine (CI.out _ b1).mono ?_
      rintro e w2 ⟨rfl, b2⟩
      clear c0 c1 c2 d0 d1
      obtain ⟨c0, c1, c2, d0, d1, _⟩ := HK.out _ b2
      go_wp2_with fail
      with_reducible refine (CN.out _ b2).mono ?_
      rintro e w3 ⟨rfl, b3⟩
      clear c0 c1 c2 d0 d1
      obtain ⟨c0, c1, c2, d0, d1, _⟩ := HK.out _ b3
      go_wp2_with fail
      with_reducible refine (CY.out _ b3).mono ?_
      rintro e w4 ⟨rfl, b4⟩
      clear c0 c1 c2 d0 d1
      have HFF := hide (HF.out _ b4)
      obtain ⟨c0, c1, c2, d0, d1, _⟩ := HK.out _ b4
      clear b1 b2 b3 b4
      go_wp2
      go_ret2
      exact ⟨rfl, HFF.out⟩
set_option maxRecDepth 100000 in
set_option maxHeartbeats 6400000 in
theorem RTai_win (B X : Int) (a : Option Addr) (n cap : Nat) (A O : Nat → Int) (K W u x : Int) (w : World) (hr : Ents w a n A O) (hK : K ≠ 1) (hcut : chkS B X A O n K W = 0 → instB u = true → CutAt (fun t => u ≤ rdT B A O n K W t) (loR u) (hiR u) x) :
    Calls Tryd.prog 17 #[.agg #[.int .i64 B, .int .i64 X, .slice a n cap], .agg #[.int .i64 K, .int .i64 W], .int .i64 u] w fun e w' => e = .returned (.tuple #[.int .i64 (taiV (chkS B X A O n K W) u (winS (rdT B A O n K W) u x)), .int .i64 (taiE (chkS B X A O n K W) u (winS (rdT B A O n K W) u x))]) ∧ Below w.heap.size w w' := by
  obtain ⟨W0, hW0⟩ : ∃ W0, W0 = (w.alloc (.cells #[.int .i64 B, .int .i64 X, .slice a n cap] 24)).alloc (.cells #[.int .i64 K, .int .i64 W] 26) := ⟨_, rfl⟩
  have HB0 : Hid (Below (w.heap.size + 2) ((w.alloc (.cells #[.int .i64 B, .int .i64 X, .slice a n cap] 24)).alloc (.cells #[.int .i64 K, .int .i64 W] 26)) W0) := hide (by rw [hW0]; exact Below.refl _ _)
  have HH : Hid (W0 = (w.alloc (.cells #[.int .i64 B, .int .i64 X, .slice a n cap] 24)).alloc (.cells #[.int .i64 K, .int .i64 W] 26)) := hide hW0
  have HR := hide (fun V (g : Below W0.heap.size W0 V) => hr.below (boxB2 (low2 HB0.out g)))
  have HK := hide (fun (V : World) (g : Below W0.heap.size W0 V) => by
    obtain ⟨c0, c1, c2, d0, d1, _⟩ := cells5 (low2 HB0.out g)
    exact And.intro c0 (And.intro c1 (And.intro c2 (And.intro d0 (And.intro d1 g)))))
  have HF := hide (fun V (g : Below W0.heap.size W0 V) => boxB2 (low2 HB0.out g))
  have hb0 := Below.refl W0.heap.size W0
  have CC := hide (based (Nat.le_refl _) fun V (g : Below W0.heap.size W0 V) => RCheck_any B X a n cap A O K W V (HR.out V g))
  have CI := hide (based (Nat.le_refl _) fun V (_ : Below W0.heap.size W0 V) => (inside_any u V).mono fun _ w' (h : _ ∧ V = w') => And.intro h.1 (by rw [← h.2]; exact Below.refl _ _))
  have hk1 : (K == 1) = false := by simpa using hK
  rcases tai_ways (chkS B X A O n K W) u (winS (rdT B A O n K W) u x) with ⟨h1, h2, e1, e2⟩ | ⟨h0, h1, e1, e2⟩ | ⟨h0, h1, h2, e1, e2⟩ | ⟨h0, h1, h2, e1, e2⟩
  · rw [e1, e2]
    generalize chkS B X A O n K W = c at *
    clear CI e1 e2 h2 hW0 hr hcut hK
    go_enter Tryd.func17, Tryd.ntmps17
    go_wp2_with fail
    rw [← HH.out]
    with_reducible refine (CC.out _ hb0).mono ?_
    rintro e w1 ⟨rfl, b1⟩
    have HFF := hide (HF.out _ b1)
    obtain ⟨c0, c1, c2, d0, d1, _⟩ := HK.out _ b1
    clear b1
    go_wp2
    go_ret2
    exact ⟨rfl, HFF.out⟩
  · rw [e1, e2]
    rw [h1] at CI
    rw [h0] at CC
    clear e1 e2 h1 h0 hW0 hr hcut hK
    go_enter Tryd.func17, Tryd.ntmps17
    go_wp2_with fail
    rw [← HH.out]
    with_reducible refine (CC.out _ hb0).mono ?_
    rintro e w1 ⟨rfl, b1⟩
    obtain ⟨c0, c1, c2, d0, d1, _⟩ := HK.out _ b1
    go_wp2_with fail
    with_reducible refine (CI.out _ b1).mono ?_
    rintro e w2 ⟨rfl, b2⟩
    clear c0 c1 c2 d0 d1
    have HFF := hide (HF.out _ b2)
    obtain ⟨c0, c1, c2, d0, d1, _⟩ := HK.out _ b2
    clear b1 b2
    go_wp2
    go_ret2
    exact ⟨rfl, HFF.out⟩
  · rw [e1, e2]
    clear e1 e2
    obtain ⟨T, hp⟩ := chkS_ok h0
    have cs := fun V (g : Below W0.heap.size W0 V) => smooth_any B X a n cap A O K W u x V (HR.out V g) T hp (instB_iff.1 h1) (hcut h0 h1)
    have h3 : (decide (u ≤ rdT B A O n K W x) && instB (rdT B A O n K W x)) = false := h2
    rw [h3] at cs
    have CS := hide (based (Nat.le_refl _) cs)
    rw [h1] at CI
    rw [h0] at CC
    clear cs h2 h3 h1 h0 hW0 hr hcut hK T hp
    go_enter Tryd.func17, Tryd.ntmps17
    go_wp2_with fail
    rw [← HH.out]
    with_reducible refine (CC.out _ hb0).mono ?_
    rintro e w1 ⟨rfl, b1⟩
    obtain ⟨c0, c1, c2, d0, d1, _⟩ := HK.out _ b1
    go_wp2_with fail
    with_reducible refine (CI.out _ b1).mono ?_
    rintro e w2 ⟨rfl, b2⟩
    clear c0 c1 c2 d0 d1
    obtain ⟨c0, c1, c2, d0, d1, _⟩ := HK.out _ b2
    go_wp2_with fail
    with_reducible refine (CS.out _ b2).mono ?_
    rintro e w3 ⟨rfl, b3⟩
    clear c0 c1 c2 d0 d1
    have HFF := hide (HF.out _ b3)
    obtain ⟨c0, c1, c2, d0, d1, _⟩ := HK.out _ b3
    clear b1 b2 b3
    go_wp2
    go_ret2
    exact ⟨rfl, HFF.out⟩
  · rw [e1, e2]
    clear e1 e2
    obtain ⟨T, hp⟩ := chkS_ok h0
    have cs := fun V (g : Below W0.heap.size W0 V) => smooth_any B X a n cap A O K W u x V (HR.out V g) T hp (instB_iff.1 h1) (hcut h0 h1)
    have h3 : (decide (u ≤ rdT B A O n K W x) && instB (rdT B A O n K W x)) = true := h2
    rw [h3] at cs
    have CS := hide (based (Nat.le_refl _) cs)
    rw [h1] at CI
    rw [h0] at CC
    clear cs h2 h3 h1 h0 hW0 hr hcut hK T hp
    show Calls _ _ _ _ fun e w' => e = .returned (.tuple #[.int .i64 x, .int .i64 0]) ∧ _
    go_enter Tryd.func17, Tryd.ntmps17
    go_wp2_with fail
    rw [← HH.out]
    with_reducible refine (CC.out _ hb0).mono ?_
    rintro e w1 ⟨rfl, b1⟩
    obtain ⟨c0, c1, c2, d0, d1, _⟩ := HK.out _ b1
    go_wp2_with fail
    with_reducible refine (CI.out _ b1).mono ?_
    rintro e w2 ⟨rfl, b2⟩
    clear c0 c1 c2 d0 d1
    obtain ⟨c0, c1, c2, d0, d1, _⟩ := HK.out _ b2
    go_wp2_with fail
    with_reducible refine (CS.out _ b2).mono ?_
    rintro e w3 ⟨rfl, b3⟩
    clear c0 c1 c2 d0 d1
    have HFF := hide (HF.out _ b3)
    obtain ⟨c0, c1, c2, d0, d1, _⟩ := HK.out _ b3
    clear b1 b2 b3
    go_wp2
    go_ret2
    exact ⟨rfl, HFF.out⟩
end Go.Proofs.YtnnfaejejnfckaaDoor.Smr
