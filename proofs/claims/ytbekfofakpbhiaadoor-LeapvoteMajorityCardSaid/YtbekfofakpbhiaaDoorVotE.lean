
/- The contracts of layer 54: Counts, Decision. -/
import Derived.Test.YtbekfofakpbhiaaDoorVotD
namespace Go.Proofs.YtbekfofakpbhiaaDoor.Vot
open Go.RowKit Aid Civ Leap
theorem counts_any (s : Vt) (g : Nat) (u : Int) (w : World) (h : PAt w g s) (hi : Inv s) :
    Calls Tryd.prog 26 #[.pointer (some ⟨g, 0, none⟩), .int .i64 u] w fun e w' => e = .returned (.agg #[.int .i64 (cv s u 0), .int .i64 (cv s u 1), .int .i64 (cv s u 2)]) ∧ Below w.heap.size w w' := by
  by_cases hu : -8000000000 ≤ u ∧ u ≤ 8000000000
  · rw [cv_in hu, cv_in hu, cv_in hu]
    exact counts_in s g u w h hi hu
  · rw [cv_out hu, cv_out hu, cv_out hu]
    exact counts_out _ u w (.inr ⟨⟨g, rfl⟩, hu⟩)
theorem cnt_n {s : Vt} (h : Inv s) (u j : Int) (N : Nat) (hN : s.n = (N : Int)) : ∀ m, cnt s u j (N + m) = cnt s u j N := by
  intro m
  induction m with
  | zero => rfl
  | succ m ih =>
    rw [← Nat.add_assoc, cnt_no (.inl (h.p _ (by omega))), ih]
theorem cnt_12 {s : Vt} (h : Inv s) (u j : Int) (N : Nat) (hN : s.n = (N : Int)) : cnt s u j 12 = cnt s u j N := by
  have := h.n2
  have e := cnt_n h u j N hN (12 - N)
  rwa [show N + (12 - N) = 12 by omega] at e
def dec (s : Vt) (u : Int) : Int := if s.n < 2 * cv s u 0 then 0 else if s.n < 2 * cv s u 1 then 1 else if s.n < 2 * cv s u 2 then 2 else 3
theorem dec_ways (s : Vt) (u : Int) : (s.n < 2 * cv s u 0 ∧ dec s u = 0) ∨ (¬ s.n < 2 * cv s u 0 ∧ s.n < 2 * cv s u 1 ∧ dec s u = 1) ∨ (¬ s.n < 2 * cv s u 0 ∧ ¬ s.n < 2 * cv s u 1 ∧ s.n < 2 * cv s u 2 ∧ dec s u = 2) ∨ (¬ s.n < 2 * cv s u 0 ∧ ¬ s.n < 2 * cv s u 1 ∧ ¬ s.n < 2 * cv s u 2 ∧ dec s u = 3) := by
  unfold dec
  by_cases h0 : s.n < 2 * cv s u 0
  · exact .inl ⟨h0, if_pos h0⟩
  by_cases h1 : s.n < 2 * cv s u 1
  · exact .inr (.inl ⟨h0, h1, by rw [if_neg h0, if_pos h1]⟩)
  by_cases h2 : s.n < 2 * cv s u 2
  · exact .inr (.inr (.inl ⟨h0, h1, h2, by rw [if_neg h0, if_neg h1, if_pos h2]⟩))
  · exact .inr (.inr (.inr ⟨h0, h1, h2, by rw [if_neg h0, if_neg h1, if_neg h2]⟩))
set_option maxRecDepth 100000 in
set_option maxHeartbeats 3200000 in
theorem Counts_nil (u : Int) (w : World) : Calls Tryd.prog 13 #[.pointer none, .int .i64 u] w fun e w' => e = .returned (.tuple #[.int .i64 0, .int .i64 0, .int .i64 0]) ∧ Below w.heap.size w w' := by
  have C := hide (counts_out none u w (.inl rfl))
  go_enter Tryd.func13, Tryd.ntmps13
  go_wp2_with fail
  with_reducible refine C.out.mono ?_
  rintro e w1 ⟨rfl, hb⟩
  have HB := hide hb
  clear hb C
  go_wp2
  go_quiet (fail)
  go_wp2
  go_ret3
  exact ⟨rfl, below_drewN (HB.out.alloc HB.out.size _) _⟩
set_option maxRecDepth 100000 in
set_option maxHeartbeats 3200000 in
theorem Counts_any (s : Vt) (g : Nat) (u : Int) (w : World) (h : PAt w g s) (hi : Inv s) : Calls Tryd.prog 13 #[.pointer (some ⟨g, 0, none⟩), .int .i64 u] w fun e w' => e = .returned (.tuple #[.int .i64 (cv s u 0), .int .i64 (cv s u 1), .int .i64 (cv s u 2)]) ∧ Below w.heap.size w w' := by
  have C := hide (counts_any s g u w h hi)
  clear h hi
  generalize cv s u 0 = x at *
  generalize cv s u 1 = y at *
  generalize cv s u 2 = z at *
  go_enter Tryd.func13, Tryd.ntmps13
  go_wp2_with fail
  with_reducible refine C.out.mono ?_
  rintro e w1 ⟨rfl, hb⟩
  have HB := hide hb
  clear hb C
  go_wp2
  go_quiet (fail)
  go_wp2
  go_ret3
  exact ⟨rfl, below_drewN (HB.out.alloc HB.out.size _) _⟩
theorem Decision_nil (u : Int) (w : World) : Calls Tryd.prog 17 #[.pointer none, .int .i64 u] w fun e w' => e = .returned (.int .i64 3) ∧ Below w.heap.size w w' := by
  go_enter Tryd.func17, Tryd.ntmps17
  go_wp2
  go_ret
  exact ⟨rfl, Below.refl _ _⟩
set_option maxRecDepth 100000 in
set_option maxHeartbeats 3200000 in
theorem Decision_any (s : Vt) (g : Nat) (u : Int) (w : World) (h : PAt w g s) (hi : Inv s) : Calls Tryd.prog 17 #[.pointer (some ⟨g, 0, none⟩), .int .i64 u] w fun e w' => e = .returned (.int .i64 (dec s u)) ∧ Below w.heap.size w w' := by
  have C := hide (counts_any s g u w h hi)
  have D := dec_ways s u
  obtain ⟨x1, x2⟩ := cv_bd s u 0
  obtain ⟨y1, y2⟩ := cv_bd s u 1
  obtain ⟨z1, z2⟩ := cv_bd s u 2
  have HP := hide (fun W (b : Below w.heap.size w W) => h.step b)
  have n1 := hi.n1
  have n2 := hi.n2
  obtain ⟨n, hn⟩ : ∃ n, n = s.n := ⟨_, rfl⟩
  obtain ⟨d, hd⟩ : ∃ d, d = dec s u := ⟨_, rfl⟩
  rw [← hn] at D n1 n2
  rw [← hd] at D ⊢
  have HN := hide hn
  clear h hi hn hd
  generalize cv s u 0 = x at *
  generalize cv s u 1 = y at *
  generalize cv s u 2 = z at *
  have i0 : ∀ W, (Instr.index 64 (.agg #[.int .i64 x, .int .i64 y, .int .i64 z]) (.int .i64 0)).run Tryd.prog W = .ok (.int .i64 x) W := fun _ => rfl
  have i1 : ∀ W, (Instr.index 64 (.agg #[.int .i64 x, .int .i64 y, .int .i64 z]) (.int .i64 1)).run Tryd.prog W = .ok (.int .i64 y) W := fun _ => rfl
  have i2 : ∀ W, (Instr.index 64 (.agg #[.int .i64 x, .int .i64 y, .int .i64 z]) (.int .i64 2)).run Tryd.prog W = .ok (.int .i64 z) W := fun _ => rfl
  have HD := hide D
  clear D
  go_enter Tryd.func17, Tryd.ntmps17
  go_wp2_with fail
  with_reducible refine C.out.mono ?_
  rintro e w1 ⟨rfl, hb⟩
  have c0 : w1.cell? ⟨g, 0, none⟩ = some (.int .i64 n) := by rw [HN.out]; exact (HP.out _ hb).cell 0 (by omega)
  have HB := hide hb
  clear hb C HP HN
  go_wp2
  go_loopw [12] (fun i wr => ∃ k : Nat, k ≤ 3 ∧ i = .int .i64 k ∧ (0 < k → ¬ n < 2 * x) ∧ (1 < k → ¬ n < 2 * y) ∧ (2 < k → ¬ n < 2 * z) ∧ wr = w1) (fun i _ => 3 - (intOf i).toNat)
  case atStart => exact ⟨0, by omega, rfl, by omega, by omega, by omega, rfl⟩
  case round =>
    obtain ⟨k, hk, rfl, p0, p1, p2, rfl⟩ := hrel
    rcases (show k = 0 ∨ k = 1 ∨ k = 2 ∨ k = 3 by omega) with rfl | rfl | rfl | rfl
    · by_cases q : n < 2 * x
      · have HR : Hid (0 = d) := hide (by have := HD.out; omega)
        clear p0 p1 p2
        go_wp2
        go_ret
        exact ⟨ret_int HR.out, HB.out⟩
      · have HR : Hid ((0 < 1 → ¬ n < 2 * x) ∧ (1 < 1 → ¬ n < 2 * y) ∧ (2 < 1 → ¬ n < 2 * z)) := hide ⟨by omega, by omega, by omega⟩
        clear p0 p1 p2
        go_wp2
        go_roundw
        case rel => exact ⟨1, by omega, rfl, HR.out.1, HR.out.2.1, HR.out.2.2, by first | rfl | trivial⟩
        case measure => decide
    · have p0 := p0 (by omega)
      by_cases q : n < 2 * y
      · have HR : Hid (1 = d) := hide (by have := HD.out; omega)
        clear p0 p1 p2
        go_wp2
        go_ret
        exact ⟨ret_int HR.out, HB.out⟩
      · have HR : Hid ((0 < 2 → ¬ n < 2 * x) ∧ (1 < 2 → ¬ n < 2 * y) ∧ (2 < 2 → ¬ n < 2 * z)) := hide ⟨by omega, by omega, by omega⟩
        clear p0 p1 p2
        go_wp2
        go_roundw
        case rel => exact ⟨2, by omega, rfl, HR.out.1, HR.out.2.1, HR.out.2.2, by first | rfl | trivial⟩
        case measure => decide
    · have p0 := p0 (by omega)
      have p1 := p1 (by omega)
      by_cases q : n < 2 * z
      · have HR : Hid (2 = d) := hide (by have := HD.out; omega)
        clear p0 p1 p2
        go_wp2
        go_ret
        exact ⟨ret_int HR.out, HB.out⟩
      · have HR : Hid ((0 < 3 → ¬ n < 2 * x) ∧ (1 < 3 → ¬ n < 2 * y) ∧ (2 < 3 → ¬ n < 2 * z)) := hide ⟨by omega, by omega, by omega⟩
        clear p0 p1 p2
        go_wp2
        go_roundw
        case rel => exact ⟨3, by omega, rfl, HR.out.1, HR.out.2.1, HR.out.2.2, by first | rfl | trivial⟩
        case measure => decide
    · have HR : Hid (3 = d) := hide (by have := HD.out; have := p0 (by omega); have := p1 (by omega); have := p2 (by omega); omega)
      clear p0 p1 p2
      go_wp2
      go_ret
      exact ⟨ret_int HR.out, HB.out⟩
set_option maxRecDepth 100000 in
set_option maxHeartbeats 3200000 in
theorem RCount_out (s : Vt) (g : Nat) (j u : Int) (w : World) (h : RAt w g s) (hi : Inv s) (hu : ¬ (-8000000000 ≤ u ∧ u ≤ 8000000000)) : Calls Tryd.prog 27 #[.pointer (some ⟨g, 0, none⟩), .int .i64 j, .int .i64 u] w fun e w' => e = .returned (.int .i64 0) ∧ w = w' := by
  have CI := hide fun W => inside_any u W
  rw [inB_f hu] at CI
  have c0 : w.cell? ⟨g, 0, none⟩ = some (.int .i64 s.n) := h.cell 0 (by omega)
  have n1 := hi.n1
  clear h hi hu
  go_enter Tryd.func27, Tryd.ntmps27
  go_wp2_with fail
  go_loopw [7, 8] (fun a i wr => a = .int .i64 0 ∧ i = .int .i64 0 ∧ wr = w) (fun _ i _ => 1)
  case atStart => exact ⟨rfl, rfl, rfl⟩
  case round =>
    obtain ⟨rfl, rfl, rfl⟩ := hrel
    go_wp2_with fail
    with_reducible refine (CI.out _).mono ?_
    rintro e _ ⟨rfl, rfl⟩
    go_wp2
    go_ret
    exact ⟨rfl, rfl⟩
set_option maxRecDepth 100000 in
set_option maxHeartbeats 3200000 in
theorem RCount_in (s : Vt) (g : Nat) (j u : Int) (w : World) (h : RAt w g s) (hi : Inv s) (hu : -8000000000 ≤ u ∧ u ≤ 8000000000) : Calls Tryd.prog 27 #[.pointer (some ⟨g, 0, none⟩), .int .i64 j, .int .i64 u] w fun e w' => e = .returned (.int .i64 (cnt s u j 12)) ∧ w = w' := by
  have CI := hide fun W => inside_any u W
  rw [inB_t hu] at CI
  have n1 := hi.n1
  have n2 := hi.n2
  obtain ⟨u1, u2⟩ := hu
  obtain ⟨N, hN⟩ : ∃ N : Nat, s.n = (N : Int) := ⟨s.n.toNat, by omega⟩
  rw [cnt_12 hi u j N hN]
  have c0 : w.cell? ⟨g, 0, none⟩ = some (.int .i64 (N : Int)) := by rw [← hN]; exact h.cell 0 (by omega)
  have HI := hide hi
  have HP := hide h
  rw [hN] at n1 n2
  have HC := hide (fun k => cnt_bd s u j k)
  clear h hi hN
  go_enter Tryd.func27, Tryd.ntmps27
  go_wp2_with fail
  go_loopw [7, 8] (fun a i wr => ∃ k : Nat, k ≤ N ∧ a = .int .i64 (cnt s u j k) ∧ i = .int .i64 k ∧ wr = w) (fun _ i _ => N - (intOf i).toNat)
  case atStart => exact ⟨0, by omega, rfl, rfl, rfl⟩
  case round =>
    obtain ⟨k, hk, rfl, rfl, rfl⟩ := hrel
    by_cases hlt : k < N
    · have hd : (k : Int) < (N : Int) := by omega
      have k0 : wr.cell? ⟨g, 1 + k, none⟩ = some (.int .i64 (s.I k)) := by rw [← (cellR_k s k (by omega)).1]; exact HP.out.cell _ (by omega)
      have k1 : wr.cell? ⟨g, 13 + k, none⟩ = some (.int .i64 (s.T k)) := by rw [← (cellR_k s k (by omega)).2.1]; exact HP.out.cell _ (by omega)
      have k2 : wr.cell? ⟨g, 25 + k, none⟩ = some (.bool (s.P k)) := by rw [← (cellR_k s k (by omega)).2.2]; exact HP.out.cell _ (by omega)
      obtain ⟨t1, t2⟩ := HI.out.t k
      obtain ⟨b1, b2⟩ := HC.out k
      obtain ⟨p, hp⟩ : ∃ p, p = s.P k := ⟨_, rfl⟩
      obtain ⟨q, hq⟩ : ∃ q, q = s.I k := ⟨_, rfl⟩
      obtain ⟨t, ht⟩ : ∃ t, t = s.T k := ⟨_, rfl⟩
      rw [← hp] at k2
      rw [← hq] at k0
      rw [← ht] at k1 t1 t2
      by_cases h1 : p = false
      · have HPk := hide (show s.P k = false by rw [← hp]; exact h1)
        subst h1
        clear hp hq ht
        go_wp2_with fail
        with_reducible refine (CI.out _).mono ?_
        rintro e _ ⟨rfl, rfl⟩
        go_wp2
        go_roundw
        case rel => exact ⟨k + 1, by omega, by rw [cnt_no (.inl HPk.out)], by go_num, by first | rfl | trivial⟩
        case measure => (simp [intOf]) <;> omega

      have h1 : p = true := by cases p <;> simp_all
      have HPk := hide (show s.P k = true by rw [← hp]; exact h1)
      subst h1
      by_cases h2 : q = j
      · have HIk := hide (show s.I k = j by rw [← hq]; exact h2)
        by_cases h3 : u < t + 86400
        · have HTk := hide (show u < s.T k + 86400 by rw [← ht]; exact h3)
          subst h2
          clear hp hq ht
          go_wp2_with fail
          with_reducible refine (CI.out _).mono ?_
          rintro e _ ⟨rfl, rfl⟩
          go_wp2
          go_roundw
          case rel => exact ⟨k + 1, by omega, by rw [cnt_yes ⟨HPk.out, HIk.out, HTk.out⟩], by go_num, by first | rfl | trivial⟩
          case measure => (simp [intOf]) <;> omega

        · have HTk := hide (show ¬ u < s.T k + 86400 by rw [← ht]; exact h3)
          subst h2
          clear hp hq ht
          go_wp2_with fail
          with_reducible refine (CI.out _).mono ?_
          rintro e _ ⟨rfl, rfl⟩
          go_wp2
          go_roundw
          case rel => exact ⟨k + 1, by omega, by rw [cnt_no (.inr (.inr (by have := HTk.out; omega)))], by go_num, by first | rfl | trivial⟩
          case measure => (simp [intOf]) <;> omega

      · have HIk := hide (show s.I k ≠ j by rw [← hq]; exact h2)
        have h3 : (q == j) = false := by simpa using h2
        clear hp hq ht h2
        go_wp2_with fail
        with_reducible refine (CI.out _).mono ?_
        rintro e _ ⟨rfl, rfl⟩
        go_wp2
        go_roundw
        case rel => exact ⟨k + 1, by omega, by rw [cnt_no (.inr (.inl HIk.out))], by go_num, by first | rfl | trivial⟩
        case measure => (simp [intOf]) <;> omega

    · have hd : ¬ (k : Int) < (N : Int) := by omega
      obtain rfl : k = N := by omega
      go_wp2
      go_ret
      exact ⟨rfl, rfl⟩
theorem RCount_any (s : Vt) (g : Nat) (j u : Int) (w : World) (h : RAt w g s) (hi : Inv s) : Calls Tryd.prog 27 #[.pointer (some ⟨g, 0, none⟩), .int .i64 j, .int .i64 u] w fun e w' => e = .returned (.int .i64 (cv s u j)) ∧ w = w' := by
  by_cases hu : -8000000000 ≤ u ∧ u ≤ 8000000000
  · rw [cv_in hu]
    exact RCount_in s g j u w h hi hu
  · rw [cv_out hu]
    exact RCount_out s g j u w h hi hu
end Go.Proofs.YtbekfofakpbhiaaDoor.Vot
