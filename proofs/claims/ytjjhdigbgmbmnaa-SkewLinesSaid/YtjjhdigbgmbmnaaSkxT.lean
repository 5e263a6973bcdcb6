/- The method gates of a line. -/
import Derived.Test.YtjjhdigbgmbmnaaSkxR
import Derived.Test.YtjjhdigbgmbmnaaSkxS
import Derived.Deep.Onto
namespace Go.Proofs.Ytjjhdigbgmbmnaa.Skw
open Go.RowKit Aid Fx App
set_option maxRecDepth 100000 in
set_option maxHeartbeats 12800000 in
theorem gates_any (A B : Int) (a1 : Option Addr) (n c1 : Nat) (X : Nat → Int) (a2 : Option Addr) (n2 c2 : Nat) (U : Nat → Int) (a3 : Option Addr) (n3 c3 : Nat) (V : Nat → Int) (w : World) (i1 : IntsAt w a1 n X) (i2 : IntsAt w a2 n2 U) (i3 : IntsAt w a3 n3 V) :
    Calls Try.prog 25 #[.agg #[.int .i64 A, .int .i64 B, .slice a1 n c1, .slice a2 n2 c2, .slice a3 n3 c3]] w fun e w' => (e = .returned (.tuple #[.slice none 0 0, .bool false]) ∧ Below w.heap.size w w') ∨ (LineOk A B n n2 n3 X U V ∧ ∃ v, e = .returned (.tuple #[v, .bool true]) ∧ w'.ownsRow w.heap.size 43 3 v n (rowG X (fun i => A + B * X i - U i) (fun i => A + B * X i + V i) n) ∧ Below w.heap.size w w') := by
  have HB0 : Hid (Below w.heap.size w (w.alloc (.cells #[.int .i64 A, .int .i64 B, .slice a1 n c1, .slice a2 n2 c2, .slice a3 n3 c3] 37))) := hide ((Below.refl _ _).alloc (Nat.le_refl _) _)
  have HC0 : Hid ((w.alloc (.cells #[.int .i64 A, .int .i64 B, .slice a1 n c1, .slice a2 n2 c2, .slice a3 n3 c3] 37)).cell? ⟨w.heap.size, 0, none⟩ = some (.int .i64 A) ∧ (w.alloc (.cells #[.int .i64 A, .int .i64 B, .slice a1 n c1, .slice a2 n2 c2, .slice a3 n3 c3] 37)).cell? ⟨w.heap.size, 1, none⟩ = some (.int .i64 B) ∧ (w.alloc (.cells #[.int .i64 A, .int .i64 B, .slice a1 n c1, .slice a2 n2 c2, .slice a3 n3 c3] 37)).cell? ⟨w.heap.size, 2, none⟩ = some (.slice a1 n c1) ∧ (w.alloc (.cells #[.int .i64 A, .int .i64 B, .slice a1 n c1, .slice a2 n2 c2, .slice a3 n3 c3] 37)).cell? ⟨w.heap.size, 3, none⟩ = some (.slice a2 n2 c2) ∧ (w.alloc (.cells #[.int .i64 A, .int .i64 B, .slice a1 n c1, .slice a2 n2 c2, .slice a3 n3 c3] 37)).cell? ⟨w.heap.size, 4, none⟩ = some (.slice a3 n3 c3)) := hide ⟨by simp [go_sem], by simp [go_sem], by simp [go_sem], by simp [go_sem], by simp [go_sem]⟩
  have HLX : Hid (w.heap.size < (w.alloc (.cells #[.int .i64 A, .int .i64 B, .slice a1 n c1, .slice a2 n2 c2, .slice a3 n3 c3] 37)).heap.size) := hide (by simp)
  by_cases h1 : n < 2
  · have q1 : (n : Int) < 2 := by omega
    clear i1 i2 i3 HLX
    go_enter Try.func25, Try.ntmps25
    go_upto_region 1 with fail
    generalize hW0 : w.alloc (.cells #[.int .i64 A, .int .i64 B, .slice a1 n c1, .slice a2 n2 c2, .slice a3 n3 c3] 37) = W0 at HB0 HC0 ⊢
    clear hW0
    obtain ⟨c0, c1', c2', c3', c4'⟩ := HC0.out
    go_wp2
    refine bodyPost_ret (v := .tuple #[.slice none 0 0, .bool false]) (by simp [results, Try.results25, go_sem, *]; try omega) rfl ?_
    exact .inl ⟨rfl, by first | exact HB0.out | exact below_drewN HB0.out _⟩
  have q1 : decide ((n : Int) < 2) = false := by simp; omega
  by_cases h2 : 20 < n
  · have q2 : 20 < (n : Int) := by omega
    clear i1 i2 i3 HLX h1
    go_enter Try.func25, Try.ntmps25
    go_upto_region 1 with fail
    generalize hW0 : w.alloc (.cells #[.int .i64 A, .int .i64 B, .slice a1 n c1, .slice a2 n2 c2, .slice a3 n3 c3] 37) = W0 at HB0 HC0 ⊢
    clear hW0
    obtain ⟨c0, c1', c2', c3', c4'⟩ := HC0.out
    go_wp2
    refine bodyPost_ret (v := .tuple #[.slice none 0 0, .bool false]) (by simp [results, Try.results25, go_sem, *]; try omega) rfl ?_
    exact .inl ⟨rfl, by first | exact HB0.out | exact below_drewN HB0.out _⟩
  have q2 : decide (20 < (n : Int)) = false := by simp; omega
  by_cases h3 : n = n2
  case neg =>
    have q3 : ((n2 : Int) != (n : Int)) = true := by simp; omega
    clear i1 i2 i3 HLX h1 h2 h3
    go_enter Try.func25, Try.ntmps25
    go_upto_region 1 with fail
    generalize hW0 : w.alloc (.cells #[.int .i64 A, .int .i64 B, .slice a1 n c1, .slice a2 n2 c2, .slice a3 n3 c3] 37) = W0 at HB0 HC0 ⊢
    clear hW0
    obtain ⟨c0, c1', c2', c3', c4'⟩ := HC0.out
    go_wp2
    refine bodyPost_ret (v := .tuple #[.slice none 0 0, .bool false]) (by simp [results, Try.results25, go_sem, *]; try omega) rfl ?_
    exact .inl ⟨rfl, by first | exact HB0.out | exact below_drewN HB0.out _⟩
  subst h3
  by_cases h4 : n = n3
  case neg =>
    have q4 : ((n3 : Int) != (n : Int)) = true := by simp; omega
    clear i1 i2 i3 HLX h1 h2 h4
    go_enter Try.func25, Try.ntmps25
    go_upto_region 1 with fail
    generalize hW0 : w.alloc (.cells #[.int .i64 A, .int .i64 B, .slice a1 n c1, .slice a2 n c2, .slice a3 n3 c3] 37) = W0 at HB0 HC0 ⊢
    clear hW0
    obtain ⟨c0, c1', c2', c3', c4'⟩ := HC0.out
    go_wp2
    refine bodyPost_ret (v := .tuple #[.slice none 0 0, .bool false]) (by simp [results, Try.results25, go_sem, *]; try omega) rfl ?_
    exact .inl ⟨rfl, by first | exact HB0.out | exact below_drewN HB0.out _⟩
  subst h4
  by_cases h5 : A < -100000
  · clear i1 i2 i3 HLX h1 h2
    go_enter Try.func25, Try.ntmps25
    go_upto_region 1 with fail
    generalize hW0 : w.alloc (.cells #[.int .i64 A, .int .i64 B, .slice a1 n c1, .slice a2 n c2, .slice a3 n c3] 37) = W0 at HB0 HC0 ⊢
    clear hW0
    obtain ⟨c0, c1', c2', c3', c4'⟩ := HC0.out
    go_wp2
    refine bodyPost_ret (v := .tuple #[.slice none 0 0, .bool false]) (by simp [results, Try.results25, go_sem, *]; try omega) rfl ?_
    exact .inl ⟨rfl, by first | exact HB0.out | exact below_drewN HB0.out _⟩
  have q5 : decide (A < -100000) = false := by simp; omega
  by_cases h6 : 100000 < A
  · clear i1 i2 i3 HLX h1 h2 h5
    go_enter Try.func25, Try.ntmps25
    go_upto_region 1 with fail
    generalize hW0 : w.alloc (.cells #[.int .i64 A, .int .i64 B, .slice a1 n c1, .slice a2 n c2, .slice a3 n c3] 37) = W0 at HB0 HC0 ⊢
    clear hW0
    obtain ⟨c0, c1', c2', c3', c4'⟩ := HC0.out
    go_wp2
    refine bodyPost_ret (v := .tuple #[.slice none 0 0, .bool false]) (by simp [results, Try.results25, go_sem, *]; try omega) rfl ?_
    exact .inl ⟨rfl, by first | exact HB0.out | exact below_drewN HB0.out _⟩
  have q6 : decide (100000 < A) = false := by simp; omega
  by_cases h7 : B < -1000
  · clear i1 i2 i3 HLX h1 h2 h5 h6
    go_enter Try.func25, Try.ntmps25
    go_upto_region 1 with fail
    generalize hW0 : w.alloc (.cells #[.int .i64 A, .int .i64 B, .slice a1 n c1, .slice a2 n c2, .slice a3 n c3] 37) = W0 at HB0 HC0 ⊢
    clear hW0
    obtain ⟨c0, c1', c2', c3', c4'⟩ := HC0.out
    go_wp2
    refine bodyPost_ret (v := .tuple #[.slice none 0 0, .bool false]) (by simp [results, Try.results25, go_sem, *]; try omega) rfl ?_
    exact .inl ⟨rfl, by first | exact HB0.out | exact below_drewN HB0.out _⟩
  have q7 : decide (B < -1000) = false := by simp; omega
  by_cases h8 : 1000 < B
  · clear i1 i2 i3 HLX h1 h2 h5 h6 h7
    go_enter Try.func25, Try.ntmps25
    go_upto_region 1 with fail
    generalize hW0 : w.alloc (.cells #[.int .i64 A, .int .i64 B, .slice a1 n c1, .slice a2 n c2, .slice a3 n c3] 37) = W0 at HB0 HC0 ⊢
    clear hW0
    obtain ⟨c0, c1', c2', c3', c4'⟩ := HC0.out
    go_wp2
    refine bodyPost_ret (v := .tuple #[.slice none 0 0, .bool false]) (by simp [results, Try.results25, go_sem, *]; try omega) rfl ?_
    exact .inl ⟨rfl, by first | exact HB0.out | exact below_drewN HB0.out _⟩
  have q8 : decide (1000 < B) = false := by simp; omega
  have HA : Hid ((-100000 ≤ A ∧ A ≤ 100000) ∧ (-1000 ≤ B ∧ B ≤ 1000) ∧ 2 ≤ n ∧ n ≤ 20) := hide ⟨by omega, by omega, by omega, by omega⟩
  obtain ⟨bx, ox, rfl, lx, dx⟩ := i1.2 (by omega)
  obtain ⟨bu, ou, rfl, lu, du⟩ := i2.2 (by omega)
  obtain ⟨bv, ov, rfl, lv, dv⟩ := i3.2 (by omega)
  have HD : Hid (∀ W, Below w.heap.size w W → ∀ i, i < n → W.cell? ⟨bx, ox + i, none⟩ = some (.int .i64 (X i)) ∧ W.cell? ⟨bu, ou + i, none⟩ = some (.int .i64 (U i)) ∧ W.cell? ⟨bv, ov + i, none⟩ = some (.int .i64 (V i))) :=
    hide fun W h i hi => ⟨(h.cell (p := ⟨bx, _, none⟩) lx).trans (dx i hi), (h.cell (p := ⟨bu, _, none⟩) lu).trans (du i hi), (h.cell (p := ⟨bv, _, none⟩) lv).trans (dv i hi)⟩
  have hn20 : n ≤ 20 := by omega
  clear i1 i2 i3 dx du dv h1 h2 h5 h6 h7 h8
  obtain ⟨i0, hi0, hz0, hz1, hz2⟩ := info_parts info_gate
  have HI0 := hide hi0
  have HZ0 := hide hz0
  have HZ1 := hide hz1
  have HZ2 := hide hz2
  clear hi0 hz0 hz1 hz2
  go_enter Try.func25, Try.ntmps25
  go_upto_region 1 with fail
  generalize hW0 : w.alloc (.cells #[.int .i64 A, .int .i64 B, .slice (some ⟨bx, ox, none⟩) n c1, .slice (some ⟨bu, ou, none⟩) n c2, .slice (some ⟨bv, ov, none⟩) n c3] 37) = W0 at HB0 HC0 HLX ⊢
  clear hW0
  obtain ⟨c0, c1', c2', c3', c4'⟩ := HC0.out
  go_wp2
  clear c0 c1' c2' c3' c4' q1 q2 q5 q6 q7 q8
  have HBF : Hid (∀ W, Below W0.heap.size W0 W → Below w.heap.size w W) := hide fun W h => HB0.out.trans (h.mono HB0.out.size)
  have HCC : Hid (∀ W, Below W0.heap.size W0 W → W.cell? ⟨w.heap.size, 0, none⟩ = some (.int .i64 A) ∧ W.cell? ⟨w.heap.size, 1, none⟩ = some (.int .i64 B) ∧ W.cell? ⟨w.heap.size, 2, none⟩ = some (.slice (some ⟨bx, ox, none⟩) n c1) ∧ W.cell? ⟨w.heap.size, 3, none⟩ = some (.slice (some ⟨bu, ou, none⟩) n c2) ∧ W.cell? ⟨w.heap.size, 4, none⟩ = some (.slice (some ⟨bv, ov, none⟩) n c3)) :=
    hide fun W h => ⟨(h.cell (p := ⟨w.heap.size, 0, none⟩) HLX.out).trans HC0.out.1, (h.cell (p := ⟨w.heap.size, 1, none⟩) HLX.out).trans HC0.out.2.1, (h.cell (p := ⟨w.heap.size, 2, none⟩) HLX.out).trans HC0.out.2.2.1, (h.cell (p := ⟨w.heap.size, 3, none⟩) HLX.out).trans HC0.out.2.2.2.1, (h.cell (p := ⟨w.heap.size, 4, none⟩) HLX.out).trans HC0.out.2.2.2.2⟩
  have HSZ : Hid (w.heap.size ≤ W0.heap.size) := hide HB0.out.size
  clear HC0
  go_loopw [4, 5] (fun v i wr => ∃ k : Nat, k ≤ n ∧ i = .int .i64 k ∧ (∀ i, i < k → (0 ≤ X i ∧ X i ≤ 100000) ∧ (0 < i → X (i - 1) < X i) ∧ (0 ≤ U i ∧ U i ≤ 100000) ∧ (0 ≤ V i ∧ V i ≤ 100000)) ∧ wr.ownsRow W0.heap.size 43 3 v k (rowG X (fun i => A + B * X i - U i) (fun i => A + B * X i + V i) k) ∧ Below W0.heap.size W0 wr) (fun _ i _ => n - (intOf i).toNat)
  case atStart => exact ⟨0, Nat.zero_le _, rfl, fun i h => absurd h (by omega), World.ownsRow_nil _ _ _ _, Below.refl _ _⟩
  case round =>
    obtain ⟨k, hk, rfl, hg, own, hb1⟩ := hrel
    obtain ⟨g0, g1, g2, g3, g4⟩ := HCC.out wr hb1
    by_cases hkn : k < n
    · have hkq : (k : Int) < (n : Int) := by omega
      have HG := hide hg
      have HO := hide own
      obtain ⟨p0, c0, hv0⟩ := (row_len own).2
      subst hv0
      clear own hg
      obtain ⟨x0, u0, v0⟩ := HD.out wr (HBF.out wr hb1) k hkn
      have HB1 := hide hb1
      have lxr : bx < wr.heap.size := Nat.lt_of_lt_of_le lx (HBF.out wr hb1).size
      have lur : bu < wr.heap.size := Nat.lt_of_lt_of_le lu (HBF.out wr hb1).size
      have lvr : bv < wr.heap.size := Nat.lt_of_lt_of_le lv (HBF.out wr hb1).size
      clear hb1
      by_cases hk0 : k = 0
      · have hk0q : decide (0 < (k : Int)) = false := by simp; omega
        have hk0d : decide (0 < k) = false := by simp; omega
        have HK0 := hide hk0
        clear hk0
        by_cases e1 : X k < 0
        · go_upto_region 7 with fail
          go_quiet (fail)
          go_wp2
          all_goals
            refine bodyPost_ret (v := .tuple #[.slice none 0 0, .bool false]) (by simp [results, Try.results25, go_sem, *]; try omega) rfl ?_
            exact .inl ⟨rfl, HBF.out _ (by repeat (first | exact HB1.out | with_reducible refine below_drewN ?_ _))⟩
        have f0 : decide (X k < 0) = false := decide_eq_false e1
        by_cases e2 : 100000 < X k
        · go_upto_region 7 with fail
          go_quiet (fail)
          go_wp2
          all_goals
            refine bodyPost_ret (v := .tuple #[.slice none 0 0, .bool false]) (by simp [results, Try.results25, go_sem, *]; try omega) rfl ?_
            exact .inl ⟨rfl, HBF.out _ (by repeat (first | exact HB1.out | with_reducible refine below_drewN ?_ _))⟩
        have f1 : decide (100000 < X k) = false := decide_eq_false e2
        by_cases e4 : U k < 0
        · go_upto_region 7 with fail
          go_quiet (fail)
          go_wp2
          all_goals
            refine bodyPost_ret (v := .tuple #[.slice none 0 0, .bool false]) (by simp [results, Try.results25, go_sem, *]; try omega) rfl ?_
            exact .inl ⟨rfl, HBF.out _ (by repeat (first | exact HB1.out | with_reducible refine below_drewN ?_ _))⟩
        have f2 : decide (U k < 0) = false := decide_eq_false e4
        by_cases e5 : 100000 < U k
        · go_upto_region 7 with fail
          go_quiet (fail)
          go_wp2
          all_goals
            refine bodyPost_ret (v := .tuple #[.slice none 0 0, .bool false]) (by simp [results, Try.results25, go_sem, *]; try omega) rfl ?_
            exact .inl ⟨rfl, HBF.out _ (by repeat (first | exact HB1.out | with_reducible refine below_drewN ?_ _))⟩
        have f3 : decide (100000 < U k) = false := decide_eq_false e5
        by_cases e6 : V k < 0
        · go_upto_region 7 with fail
          go_quiet (fail)
          go_wp2
          all_goals
            refine bodyPost_ret (v := .tuple #[.slice none 0 0, .bool false]) (by simp [results, Try.results25, go_sem, *]; try omega) rfl ?_
            exact .inl ⟨rfl, HBF.out _ (by repeat (first | exact HB1.out | with_reducible refine below_drewN ?_ _))⟩
        have f4 : decide (V k < 0) = false := decide_eq_false e6
        by_cases e7 : 100000 < V k
        · go_upto_region 7 with fail
          go_quiet (fail)
          go_wp2
          all_goals
            refine bodyPost_ret (v := .tuple #[.slice none 0 0, .bool false]) (by simp [results, Try.results25, go_sem, *]; try omega) rfl ?_
            exact .inl ⟨rfl, HBF.out _ (by repeat (first | exact HB1.out | with_reducible refine below_drewN ?_ _))⟩
        have f5 : decide (100000 < V k) = false := decide_eq_false e7
        have HEO : Hid ((0 ≤ X k ∧ X k ≤ 100000) ∧ (0 < k → X (k - 1) < X k) ∧ (0 ≤ U k ∧ U k ≤ 100000) ∧ (0 ≤ V k ∧ V k ≤ 100000)) := hide ⟨by omega, by (have := HK0.out; omega), by omega, by omega⟩
        have lb := line_bd HA.out.1 HA.out.2.1 HEO.out.1
        have w1 : IntKind.i64.wrap (B * X k) = B * X k := IntWalk.i64_in _ (by omega)
        have w2 : IntKind.i64.wrap (A + B * X k) = A + B * X k := IntWalk.i64_in _ (by omega)
        have w3 : IntKind.i64.wrap (A + B * X k - U k) = A + B * X k - U k := IntWalk.i64_in _ (by omega)
        have w4 : IntKind.i64.wrap (A + B * X k + V k) = A + B * X k + V k := IntWalk.i64_in _ (by omega)
        have HK : Hid (∀ W, Below W0.heap.size W0 W → W.cell? ⟨w.heap.size, 2, none⟩ = some (.slice (some ⟨bx, ox, none⟩) n c1) ∧ W.cell? ⟨w.heap.size, 3, none⟩ = some (.slice (some ⟨bu, ou, none⟩) n c2) ∧ W.cell? ⟨w.heap.size, 4, none⟩ = some (.slice (some ⟨bv, ov, none⟩) n c3) ∧ W.cell? ⟨bx, ox + k, none⟩ = some (.int .i64 (X k)) ∧ W.cell? ⟨bu, ou + k, none⟩ = some (.int .i64 (U k)) ∧ W.cell? ⟨bv, ov + k, none⟩ = some (.int .i64 (V k)) ∧ Below W0.heap.size W0 W) := hide fun W h => ⟨(HCC.out W h).2.2.1, (HCC.out W h).2.2.2.1, (HCC.out W h).2.2.2.2, (HD.out W (HBF.out W h) k hkn).1, (HD.out W (HBF.out W h) k hkn).2.1, (HD.out W (HBF.out W h) k hkn).2.2, h⟩
        clear lb
        go_upto_region 7 with fail
        go_quiet (fail)
        go_upto_region 9 with fail
        go_quiet (fail)
        go_upto_region 10 with fail
        clear g0 g1 g2 g3 g4 x0 u0 v0 w1 w2
        have hb1 := HB1.out
        have hbb := hb1
        have hbr := Below.refl wr.heap.size wr
        go_region_held3 (fun W => W.cell? ⟨w.heap.size, 2, none⟩ = some (.slice (some ⟨bx, ox, none⟩) n c1) ∧ W.cell? ⟨w.heap.size, 3, none⟩ = some (.slice (some ⟨bu, ou, none⟩) n c2) ∧ W.cell? ⟨w.heap.size, 4, none⟩ = some (.slice (some ⟨bv, ov, none⟩) n c3) ∧ W.cell? ⟨bx, ox + k, none⟩ = some (.int .i64 (X k)) ∧ W.cell? ⟨bu, ou + k, none⟩ = some (.int .i64 (U k)) ∧ W.cell? ⟨bv, ov + k, none⟩ = some (.int .i64 (V k)) ∧ Below W0.heap.size W0 W)
          (exact HK.out _ (by (repeat (first | with_reducible exact hbb | with_reducible exact hb1 | with_reducible refine rat_up ?_ _ | with_reducible refine Below.drew ?_ | with_reducible refine below_drewN ?_ _))))
          (first | (refine step_app2 _ rfl (.tmp 137) (.tmp 158) 22 rfl W0.heap.size 43 i0 _ 3 24 Try.underlying22 HI0.out HZ0.out HZ1.out HZ2.out rfl (Nat.zero_lt_succ 2) k (rowG X (fun i => A + B * X i - U i) (fun i => A + B * X i + V i) k) ?_ 1 [.int .i64 (X k), .int .i64 (A + B * X k - U k), .int .i64 (A + B * X k + V k)] ?_ (three_one _ _ _) ?_ ?_ ?_ ?_; (exact row_step HO.out (by (repeat (first | with_reducible exact hbr | with_reducible refine rat_up ?_ _ | with_reducible refine Below.drew ?_ | with_reducible refine below_drewN ?_ _)))); (first | exact ⟨_, _, rfl, src_g rfl⟩ | exact ⟨_, _, rfl, src_gd (src_g rfl)⟩ | (refine ⟨_, _, rfl, src_g ?_⟩; simp)); (unfold maxLen; omega); omega; (exact low_size (by (repeat (first | with_reducible exact hbb | with_reducible exact hb1 | with_reducible refine rat_up ?_ _ | with_reducible refine Below.drew ?_ | with_reducible refine below_drewN ?_ _)))); intro v1 wA hown1 hg1 hbk1; have hbb : Below W0.heap.size W0 wA := Below.grown (by (repeat (first | with_reducible exact hbb | with_reducible exact hb1 | with_reducible refine rat_up ?_ _ | with_reducible refine Below.drew ?_ | with_reducible refine below_drewN ?_ _))) hg1 (low_size (by (repeat (first | with_reducible exact hbb | with_reducible exact hb1 | with_reducible refine rat_up ?_ _ | with_reducible refine Below.drew ?_ | with_reducible refine below_drewN ?_ _)))) hbk1))
        all_goals
          have O5 := hide hown1
          have B5 := hide hbb
          have HG5 : Hid (∀ i, i < k + 1 → (0 ≤ X i ∧ X i ≤ 100000) ∧ (0 < i → X (i - 1) < X i) ∧ (0 ≤ U i ∧ U i ≤ 100000) ∧ (0 ≤ V i ∧ V i ≤ 100000)) := hide fun i hi => by
            rcases Nat.lt_or_ge i k with h | h
            · exact HG.out i h
            · obtain rfl : i = k := by omega
              exact HEO.out
          clear hown1 hbb HO hb1 hbr HK hg1 hbk1
          go_wp2
          go_roundw
          case rel => exact ⟨k + 1, by omega, by go_num, HG5.out, O5.out, B5.out⟩
          case measure => (simp [intOf]) <;> omega
      · have hkp : 0 < k := by omega
        have hkpq : 0 < (k : Int) := by omega
        obtain ⟨xp, -, -⟩ := HD.out wr (HBF.out wr HB1.out) (k - 1) (by omega)
        clear hk0
        by_cases e1 : X k < 0
        · go_upto_region 7 with fail
          go_quiet (fail)
          go_wp2
          all_goals
            refine bodyPost_ret (v := .tuple #[.slice none 0 0, .bool false]) (by simp [results, Try.results25, go_sem, *]; try omega) rfl ?_
            exact .inl ⟨rfl, HBF.out _ (by repeat (first | exact HB1.out | with_reducible refine below_drewN ?_ _))⟩
        have f0 : decide (X k < 0) = false := decide_eq_false e1
        by_cases e2 : 100000 < X k
        · go_upto_region 7 with fail
          go_quiet (fail)
          go_wp2
          all_goals
            refine bodyPost_ret (v := .tuple #[.slice none 0 0, .bool false]) (by simp [results, Try.results25, go_sem, *]; try omega) rfl ?_
            exact .inl ⟨rfl, HBF.out _ (by repeat (first | exact HB1.out | with_reducible refine below_drewN ?_ _))⟩
        have f1 : decide (100000 < X k) = false := decide_eq_false e2
        by_cases e3 : X k ≤ X (k - 1)
        · go_upto_region 7 with fail
          go_quiet (fail)
          go_wp2
          all_goals
            refine bodyPost_ret (v := .tuple #[.slice none 0 0, .bool false]) (by simp [results, Try.results25, go_sem, *]; try omega) rfl ?_
            exact .inl ⟨rfl, HBF.out _ (by repeat (first | exact HB1.out | with_reducible refine below_drewN ?_ _))⟩
        have f2 : decide (X k ≤ X (k - 1)) = false := decide_eq_false e3
        by_cases e4 : U k < 0
        · go_upto_region 7 with fail
          go_quiet (fail)
          go_wp2
          all_goals
            refine bodyPost_ret (v := .tuple #[.slice none 0 0, .bool false]) (by simp [results, Try.results25, go_sem, *]; try omega) rfl ?_
            exact .inl ⟨rfl, HBF.out _ (by repeat (first | exact HB1.out | with_reducible refine below_drewN ?_ _))⟩
        have f3 : decide (U k < 0) = false := decide_eq_false e4
        by_cases e5 : 100000 < U k
        · go_upto_region 7 with fail
          go_quiet (fail)
          go_wp2
          all_goals
            refine bodyPost_ret (v := .tuple #[.slice none 0 0, .bool false]) (by simp [results, Try.results25, go_sem, *]; try omega) rfl ?_
            exact .inl ⟨rfl, HBF.out _ (by repeat (first | exact HB1.out | with_reducible refine below_drewN ?_ _))⟩
        have f4 : decide (100000 < U k) = false := decide_eq_false e5
        by_cases e6 : V k < 0
        · go_upto_region 7 with fail
          go_quiet (fail)
          go_wp2
          all_goals
            refine bodyPost_ret (v := .tuple #[.slice none 0 0, .bool false]) (by simp [results, Try.results25, go_sem, *]; try omega) rfl ?_
            exact .inl ⟨rfl, HBF.out _ (by repeat (first | exact HB1.out | with_reducible refine below_drewN ?_ _))⟩
        have f5 : decide (V k < 0) = false := decide_eq_false e6
        by_cases e7 : 100000 < V k
        · go_upto_region 7 with fail
          go_quiet (fail)
          go_wp2
          all_goals
            refine bodyPost_ret (v := .tuple #[.slice none 0 0, .bool false]) (by simp [results, Try.results25, go_sem, *]; try omega) rfl ?_
            exact .inl ⟨rfl, HBF.out _ (by repeat (first | exact HB1.out | with_reducible refine below_drewN ?_ _))⟩
        have f6 : decide (100000 < V k) = false := decide_eq_false e7
        have HEO : Hid ((0 ≤ X k ∧ X k ≤ 100000) ∧ (0 < k → X (k - 1) < X k) ∧ (0 ≤ U k ∧ U k ≤ 100000) ∧ (0 ≤ V k ∧ V k ≤ 100000)) := hide ⟨by omega, by omega, by omega, by omega⟩
        have lb := line_bd HA.out.1 HA.out.2.1 HEO.out.1
        have w1 : IntKind.i64.wrap (B * X k) = B * X k := IntWalk.i64_in _ (by omega)
        have w2 : IntKind.i64.wrap (A + B * X k) = A + B * X k := IntWalk.i64_in _ (by omega)
        have w3 : IntKind.i64.wrap (A + B * X k - U k) = A + B * X k - U k := IntWalk.i64_in _ (by omega)
        have w4 : IntKind.i64.wrap (A + B * X k + V k) = A + B * X k + V k := IntWalk.i64_in _ (by omega)
        have HK : Hid (∀ W, Below W0.heap.size W0 W → W.cell? ⟨w.heap.size, 2, none⟩ = some (.slice (some ⟨bx, ox, none⟩) n c1) ∧ W.cell? ⟨w.heap.size, 3, none⟩ = some (.slice (some ⟨bu, ou, none⟩) n c2) ∧ W.cell? ⟨w.heap.size, 4, none⟩ = some (.slice (some ⟨bv, ov, none⟩) n c3) ∧ W.cell? ⟨bx, ox + k, none⟩ = some (.int .i64 (X k)) ∧ W.cell? ⟨bu, ou + k, none⟩ = some (.int .i64 (U k)) ∧ W.cell? ⟨bv, ov + k, none⟩ = some (.int .i64 (V k)) ∧ Below W0.heap.size W0 W) := hide fun W h => ⟨(HCC.out W h).2.2.1, (HCC.out W h).2.2.2.1, (HCC.out W h).2.2.2.2, (HD.out W (HBF.out W h) k hkn).1, (HD.out W (HBF.out W h) k hkn).2.1, (HD.out W (HBF.out W h) k hkn).2.2, h⟩
        clear lb
        go_upto_region 7 with fail
        go_quiet (fail)
        go_upto_region 9 with fail
        go_quiet (fail)
        go_upto_region 10 with fail
        clear g0 g1 g2 g3 g4 x0 u0 v0 w1 w2
        have hb1 := HB1.out
        have hbb := hb1
        have hbr := Below.refl wr.heap.size wr
        go_region_held3 (fun W => W.cell? ⟨w.heap.size, 2, none⟩ = some (.slice (some ⟨bx, ox, none⟩) n c1) ∧ W.cell? ⟨w.heap.size, 3, none⟩ = some (.slice (some ⟨bu, ou, none⟩) n c2) ∧ W.cell? ⟨w.heap.size, 4, none⟩ = some (.slice (some ⟨bv, ov, none⟩) n c3) ∧ W.cell? ⟨bx, ox + k, none⟩ = some (.int .i64 (X k)) ∧ W.cell? ⟨bu, ou + k, none⟩ = some (.int .i64 (U k)) ∧ W.cell? ⟨bv, ov + k, none⟩ = some (.int .i64 (V k)) ∧ Below W0.heap.size W0 W)
          (exact HK.out _ (by (repeat (first | with_reducible exact hbb | with_reducible exact hb1 | with_reducible refine rat_up ?_ _ | with_reducible refine Below.drew ?_ | with_reducible refine below_drewN ?_ _))))
          (first | (refine step_app2 _ rfl (.tmp 137) (.tmp 158) 22 rfl W0.heap.size 43 i0 _ 3 24 Try.underlying22 HI0.out HZ0.out HZ1.out HZ2.out rfl (Nat.zero_lt_succ 2) k (rowG X (fun i => A + B * X i - U i) (fun i => A + B * X i + V i) k) ?_ 1 [.int .i64 (X k), .int .i64 (A + B * X k - U k), .int .i64 (A + B * X k + V k)] ?_ (three_one _ _ _) ?_ ?_ ?_ ?_; (exact row_step HO.out (by (repeat (first | with_reducible exact hbr | with_reducible refine rat_up ?_ _ | with_reducible refine Below.drew ?_ | with_reducible refine below_drewN ?_ _)))); (first | exact ⟨_, _, rfl, src_g rfl⟩ | exact ⟨_, _, rfl, src_gd (src_g rfl)⟩ | (refine ⟨_, _, rfl, src_g ?_⟩; simp)); (unfold maxLen; omega); omega; (exact low_size (by (repeat (first | with_reducible exact hbb | with_reducible exact hb1 | with_reducible refine rat_up ?_ _ | with_reducible refine Below.drew ?_ | with_reducible refine below_drewN ?_ _)))); intro v1 wA hown1 hg1 hbk1; have hbb : Below W0.heap.size W0 wA := Below.grown (by (repeat (first | with_reducible exact hbb | with_reducible exact hb1 | with_reducible refine rat_up ?_ _ | with_reducible refine Below.drew ?_ | with_reducible refine below_drewN ?_ _))) hg1 (low_size (by (repeat (first | with_reducible exact hbb | with_reducible exact hb1 | with_reducible refine rat_up ?_ _ | with_reducible refine Below.drew ?_ | with_reducible refine below_drewN ?_ _)))) hbk1))
        all_goals
          have O5 := hide hown1
          have B5 := hide hbb
          have HG5 : Hid (∀ i, i < k + 1 → (0 ≤ X i ∧ X i ≤ 100000) ∧ (0 < i → X (i - 1) < X i) ∧ (0 ≤ U i ∧ U i ≤ 100000) ∧ (0 ≤ V i ∧ V i ≤ 100000)) := hide fun i hi => by
            rcases Nat.lt_or_ge i k with h | h
            · exact HG.out i h
            · obtain rfl : i = k := by omega
              exact HEO.out
          clear hown1 hbb HO hb1 hbr HK hg1 hbk1
          go_wp2
          go_roundw
          case rel => exact ⟨k + 1, by omega, by go_num, HG5.out, O5.out, B5.out⟩
          case measure => (simp [intOf]) <;> omega
    · have e : k = n := by omega
      subst e
      have hkk : decide ((k : Int) < (k : Int)) = false := by simp
      have HLO : Hid (LineOk A B k k k X U V) := hide ⟨HA.out.2.2.1, HA.out.2.2.2, rfl, rfl, HA.out.1, HA.out.2.1, hg⟩
      obtain ⟨p0, c0, hv0⟩ := (row_len own).2
      subst hv0
      have HO := hide (own.mono HSZ.out)
      have HB1 := hide (HBF.out wr hb1)
      clear hg own hb1
      go_wp2
      all_goals
        refine bodyPost_ret (v := .tuple #[.slice p0 k c0, .bool true]) (by simp [results, Try.results25, go_sem, *]; try omega) rfl ?_
        exact .inr ⟨HLO.out, _, rfl, HO.out, HB1.out⟩
end Go.Proofs.Ytjjhdigbgmbmnaa.Skw
