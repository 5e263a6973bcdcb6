
/- The contracts of layer 54: counts. -/
import Derived.Test.YtnmpoeljjajdiaaDoorVotC
import Derived.Deep.MidRow
namespace Go.Proofs.YtnmpoeljjajdiaaDoor.Vot
open Go.RowKit Aid Civ Leap
def isV (s : Vt) (u j : Int) (k : Nat) : Bool := s.P k && s.I k == j && decide (u < s.T k + 86400)
def cnt (s : Vt) (u j : Int) : Nat → Int
  | 0 => 0
  | k + 1 => cnt s u j k + if isV s u j k = true then 1 else 0
def cv (s : Vt) (u j : Int) : Int := if -8000000000 ≤ u ∧ u ≤ 8000000000 then cnt s u j 12 else 0
theorem cnt_bd (s : Vt) (u j : Int) (k : Nat) : 0 ≤ cnt s u j k ∧ cnt s u j k ≤ k := by
  induction k with
  | zero => exact ⟨Int.le_refl _, Int.le_refl _⟩
  | succ k ih =>
    have e : cnt s u j (k + 1) = cnt s u j k + if isV s u j k = true then 1 else 0 := rfl
    rw [e]
    split <;> omega
theorem cv_bd (s : Vt) (u j : Int) : 0 ≤ cv s u j ∧ cv s u j ≤ 12 := by
  unfold cv
  split
  · exact cnt_bd s u j 12
  · exact ⟨Int.le_refl _, by decide⟩
theorem cv_in {s : Vt} {u j : Int} (h : -8000000000 ≤ u ∧ u ≤ 8000000000) : cv s u j = cnt s u j 12 := by unfold cv; rw [if_pos h]
theorem cv_out {s : Vt} {u j : Int} (h : ¬ (-8000000000 ≤ u ∧ u ≤ 8000000000)) : cv s u j = 0 := by unfold cv; rw [if_neg h]
theorem cnt_no {s : Vt} {u j : Int} {k : Nat} (h : s.P k = false ∨ s.I k ≠ j ∨ ¬ u < s.T k + 86400) : cnt s u j (k + 1) = cnt s u j k := by
  have e : cnt s u j (k + 1) = cnt s u j k + if isV s u j k = true then 1 else 0 := rfl
  rw [e, if_neg, Int.add_zero]
  unfold isV
  simp only [Bool.and_eq_true, beq_iff_eq, decide_eq_true_eq]
  rintro ⟨⟨a, b⟩, c⟩
  rcases h with h | h | h
  · rw [h] at a; cases a
  · exact h b
  · exact h c
theorem cnt_yes {s : Vt} {u j : Int} {k : Nat} (h : s.P k = true ∧ s.I k = j ∧ u < s.T k + 86400) : cnt s u j (k + 1) = cnt s u j k + 1 := by
  have e : cnt s u j (k + 1) = cnt s u j k + if isV s u j k = true then 1 else 0 := rfl
  rw [e, if_pos]
  unfold isV
  simp only [Bool.and_eq_true, beq_iff_eq, decide_eq_true_eq]
  exact ⟨⟨h.1, h.2.1⟩, h.2.2⟩
def votesA (s : Vt) : Array Value := #[.bool (s.P 0), .int .i64 (s.I 0), .int .i64 (s.T 0), .bool (s.P 1), .int .i64 (s.I 1), .int .i64 (s.T 1), .bool (s.P 2), .int .i64 (s.I 2), .int .i64 (s.T 2), .bool (s.P 3), .int .i64 (s.I 3), .int .i64 (s.T 3), .bool (s.P 4), .int .i64 (s.I 4), .int .i64 (s.T 4), .bool (s.P 5), .int .i64 (s.I 5), .int .i64 (s.T 5), .bool (s.P 6), .int .i64 (s.I 6), .int .i64 (s.T 6), .bool (s.P 7), .int .i64 (s.I 7), .int .i64 (s.T 7), .bool (s.P 8), .int .i64 (s.I 8), .int .i64 (s.T 8), .bool (s.P 9), .int .i64 (s.I 9), .int .i64 (s.T 9), .bool (s.P 10), .int .i64 (s.I 10), .int .i64 (s.T 10), .bool (s.P 11), .int .i64 (s.I 11), .int .i64 (s.T 11)]
theorem votes_at (s : Vt) : ∀ j v, (votesA s).toList[j]? = some v → cellP s (3 + j) = v := by
  intro j v h
  have hj : j < 36 := by
    rcases Nat.lt_or_ge j 36 with q | q
    · exact q
    · rw [List.getElem?_eq_none (show (votesA s).toList.length ≤ j from q)] at h; cases h
  match j, hj with
  | 0, _ | 1, _ | 2, _ | 3, _ | 4, _ | 5, _ | 6, _ | 7, _ | 8, _ | 9, _ | 10, _ | 11, _ | 12, _ | 13, _ | 14, _ | 15, _ | 16, _ | 17, _ | 18, _ | 19, _ | 20, _ | 21, _ | 22, _ | 23, _ | 24, _ | 25, _ | 26, _ | 27, _ | 28, _ | 29, _ | 30, _ | 31, _ | 32, _ | 33, _ | 34, _ | 35, _ => exact Option.some.inj h
  | k + 36, hk => exact absurd hk (by omega)
theorem index_votes (s : Vt) (k : Nat) (hk : k < 12) : ∀ w : World, (Instr.index 66 (.agg (votesA s)) (.int .i64 (k : Int))).run Tryd.prog w = .ok (.agg #[.bool (s.P k), .int .i64 (s.I k), .int .i64 (s.T k)]) w := by
  intro w
  match k, hk with
  | 0, _ | 1, _ | 2, _ | 3, _ | 4, _ | 5, _ | 6, _ | 7, _ | 8, _ | 9, _ | 10, _ | 11, _ => rfl
  | k + 12, hk => exact absurd hk (by omega)
theorem load_votes {w : World} {g : Nat} {s : Vt} (h : PAt w g s) : w.rangeAt g 3 (votesA s).toList := fun j v hv => by
  have hj : j < 36 := by
    rcases Nat.lt_or_ge j 36 with q | q
    · exact q
    · rw [List.getElem?_eq_none (show (votesA s).toList.length ≤ j from q)] at hv; cases hv
  rw [← votes_at s j v hv]
  exact h.cell _ (by omega)
def C3At (w : World) (b : Nat) (x y z : Int) : Prop := w.heap[b]? = some (.cells #[.int .i64 x, .int .i64 y, .int .i64 z] 69 (0, 0))
theorem C3At.cells {w : World} {b : Nat} {x y z : Int} (h : C3At w b x y z) : w.cell? ⟨b, 0, none⟩ = some (.int .i64 x) ∧ w.cell? ⟨b, 1, none⟩ = some (.int .i64 y) ∧ w.cell? ⟨b, 2, none⟩ = some (.int .i64 z) ∧ ∀ i, w.frozen? ⟨b, i, none⟩ = false :=
  ⟨cell_of_row w b 0 _ _ _ h, cell_of_row w b 1 _ _ _ h, cell_of_row w b 2 _ _ _ h, fun i => by unfold C3At at h; simp [World.frozen?, h]⟩
theorem C3At.set {w : World} {b : Nat} {x y z x' y' z' : Int} (h : C3At w b x y z) (i : Nat) (v : Int) (he : (#[.int .i64 x, .int .i64 y, .int .i64 z] : Array Value).setIfInBounds i (.int .i64 v) = #[.int .i64 x', .int .i64 y', .int .i64 z']) : C3At (w.setCell ⟨b, i, none⟩ (.int .i64 v)) b x' y' z' := by
  unfold C3At at *
  rw [← he]
  simp [World.setCell, Array.getElem?_modify, h]
theorem C3At.below {w w' : World} {b B : Nat} {x y z : Int} (h : C3At w b x y z) (hb : Below B w w') (hg : b < B) : C3At w' b x y z := (hb.block b hg).trans h
set_option maxRecDepth 100000 in
set_option maxHeartbeats 3200000 in
theorem counts_out (g : Option Addr) (u : Int) (w : World) (hg : g = none ∨ (∃ b, g = some ⟨b, 0, none⟩) ∧ ¬ (-8000000000 ≤ u ∧ u ≤ 8000000000)) :
    Calls Tryd.prog 31 #[.pointer g, .int .i64 u] w fun e w' => e = .returned (.agg #[.int .i64 0, .int .i64 0, .int .i64 0]) ∧ Below w.heap.size w w' := by
  have hb : Below w.heap.size w ((w.alloc (.cells #[.int .i64 0, .int .i64 0, .int .i64 0] 69)).alloc (.cells #[.int .i64 0, .int .i64 0, .int .i64 0] 69)) := ((Below.refl _ _).alloc (Nat.le_refl _) _).alloc (by simp) _
  have HB := hide hb
  clear hb
  rcases hg with rfl | ⟨⟨b, rfl⟩, h⟩
  · go_enter Tryd.func31, Tryd.ntmps31
    go_wp2
    refine bodyPost_ret (v := .agg #[.int .i64 0, .int .i64 0, .int .i64 0]) (by simp [results, Tryd.results31, go_sem]) rfl ?_
    refine ⟨rfl, ?_⟩
    repeat (with_reducible refine Below.setCell ?_ (by simp) _)
    exact HB.out
  · have CI := hide fun W => isSecond_any u W
    rw [inB_f h] at CI
    clear h
    go_enter Tryd.func31, Tryd.ntmps31
    go_wp2_with fail
    with_reducible refine (CI.out _).mono ?_
    rintro e _ ⟨rfl, rfl⟩
    go_wp2
    refine bodyPost_ret (v := .agg #[.int .i64 0, .int .i64 0, .int .i64 0]) (by simp [results, Tryd.results31, go_sem]) rfl ?_
    refine ⟨rfl, ?_⟩
    repeat (with_reducible refine Below.setCell ?_ (by simp) _)
    exact HB.out
set_option maxRecDepth 100000 in
set_option maxHeartbeats 3200000 in
theorem counts_in (s : Vt) (g : Nat) (u : Int) (w : World) (h : PAt w g s) (hi : Inv s) (hu : -8000000000 ≤ u ∧ u ≤ 8000000000) :
    Calls Tryd.prog 31 #[.pointer (some ⟨g, 0, none⟩), .int .i64 u] w fun e w' => e = .returned (.agg #[.int .i64 (cnt s u 0 12), .int .i64 (cnt s u 1 12), .int .i64 (cnt s u 2 12)]) ∧ Below w.heap.size w w' := by
  have CI := hide fun W => isSecond_any u W
  rw [inB_t hu] at CI
  obtain ⟨u1, u2⟩ := hu
  obtain ⟨W1, hW1⟩ : ∃ W1, W1 = ((w.alloc (.cells #[.int .i64 0, .int .i64 0, .int .i64 0] 69)).alloc (.cells #[.int .i64 0, .int .i64 0, .int .i64 0] 69)) := ⟨_, rfl⟩
  have hb : Below w.heap.size w W1 := by rw [hW1]; exact ((Below.refl _ _).alloc (Nat.le_refl _) _).alloc (by simp) _
  have hz : W1.heap.size = w.heap.size + 2 := by rw [hW1]; simp
  have hlc := load_votes (h.step hb)
  have r0 : C3At W1 w.heap.size 0 0 0 := by rw [hW1]; unfold C3At; exact (Below.heap_alloc _ _ _ (by simp)).trans (heap_alloc_new w _)
  have r1 : C3At W1 (w.heap.size + 1) 0 0 0 := by rw [hW1]; unfold C3At; have := heap_alloc_new (w.alloc (.cells #[.int .i64 0, .int .i64 0, .int .i64 0] 69)) (.cells #[.int .i64 0, .int .i64 0, .int .i64 0] 69); simpa using this
  have HW := hide hW1
  have HB := hide hb
  have HI := hide hi
  have R0 := hide r0
  have R1 := hide r1
  have HC := hide (fun j => cnt_bd s u j)
  clear hb hi r0 r1 h hW1
  go_enter Tryd.func31, Tryd.ntmps31
  go_wp2_with fail
  with_reducible refine (CI.out _).mono ?_
  rintro e _ ⟨rfl, rfl⟩
  rw [← HW.out]
  go_wp2_with (refine wpList_load_mid rfl 66 _ rfl g 3 rfl (votesA s).toList _ hlc Tryd.underlying66 rfl (by kernel_rfl) ?_)
  go_loopw [20] (fun i wr => ∃ k : Nat, k ≤ 12 ∧ i = .int .i64 k ∧ Below (w.heap.size + 1) W1 wr ∧ C3At wr (w.heap.size + 1) (cnt s u 0 k) (cnt s u 1 k) (cnt s u 2 k)) (fun i _ => 12 - (intOf i).toNat)
  case atStart => exact ⟨0, by omega, rfl, Below.refl _ _, R1.out⟩
  case round =>
    obtain ⟨k, hk, rfl, hbl, hc⟩ := hrel
    have hs5 : w.heap.size + 1 < wr.heap.size := by have := hbl.size; omega
    obtain ⟨c0, c1, c2, cf⟩ := hc.cells
    obtain ⟨b01, b02⟩ := HC.out 0 k
    obtain ⟨b11, b12⟩ := HC.out 1 k
    obtain ⟨b21, b22⟩ := HC.out 2 k
    have HL := hide hbl
    have HC3 := hide hc
    have R0w := hide (R0.out.below hbl (by omega))
    have HZ := hide hz
    clear hbl hc hz R0
    by_cases hlt : k < 12
    · have hix := index_votes s k hlt
      obtain ⟨i1, i2⟩ := HI.out.i k
      obtain ⟨t1, t2⟩ := HI.out.t k
      obtain ⟨p, hp⟩ : ∃ p, p = s.P k := ⟨_, rfl⟩
      obtain ⟨q, hq⟩ : ∃ q, q = s.I k := ⟨_, rfl⟩
      obtain ⟨t, ht⟩ : ∃ t, t = s.T k := ⟨_, rfl⟩
      rw [← hp, ← hq, ← ht] at hix
      rw [← hq] at i1 i2
      rw [← ht] at t1 t2
      by_cases h1 : p = false
      · have HPk := hide (show s.P k = false by rw [← hp]; exact h1)
        subst h1
        clear hp hq ht
        go_wp2
        go_roundw
        case rel =>
          refine ⟨k + 1, by omega, by go_num, HL.out.alloc (by omega) _, ?_⟩
          rw [cnt_no (.inl HPk.out), cnt_no (.inl HPk.out), cnt_no (.inl HPk.out)]
          exact HC3.out.below ((Below.refl _ _).alloc (Nat.le_refl _) _) hs5
        case measure => (simp [intOf]) <;> omega

      have h1 : p = true := by cases p <;> simp_all
      have HPk := hide (show s.P k = true by rw [← hp]; exact h1)
      subst h1
      by_cases h2 : q = 3
      · have HIk := hide (show s.I k = 3 by rw [← hq]; exact h2)
        subst h2
        clear hp hq ht
        go_wp2
        go_roundw
        case rel =>
          refine ⟨k + 1, by omega, by go_num, HL.out.alloc (by omega) _, ?_⟩
          rw [cnt_no (.inr (.inl (by rw [HIk.out]; decide))), cnt_no (.inr (.inl (by rw [HIk.out]; decide))), cnt_no (.inr (.inl (by rw [HIk.out]; decide)))]
          exact HC3.out.below ((Below.refl _ _).alloc (Nat.le_refl _) _) hs5
        case measure => (simp [intOf]) <;> omega

      by_cases h3 : ¬ u - t < 86400
      · have HTk := hide (show ¬ u < s.T k + 86400 by rw [← ht]; omega)
        clear hp hq ht
        go_wp2
        go_roundw
        case rel =>
          refine ⟨k + 1, by omega, by go_num, HL.out.alloc (by omega) _, ?_⟩
          rw [cnt_no (.inr (.inr HTk.out)), cnt_no (.inr (.inr HTk.out)), cnt_no (.inr (.inr HTk.out))]
          exact HC3.out.below ((Below.refl _ _).alloc (Nat.le_refl _) _) hs5
        case measure => (simp [intOf]) <;> omega

      have h4 : u - t < 86400 := by omega
      have HTk := hide (show u < s.T k + 86400 by rw [← ht]; omega)
      clear h3
      rcases (show q = 0 ∨ q = 1 ∨ q = 2 by omega) with h5 | h5 | h5
      · have HIk := hide (show s.I k = 0 by rw [← hq]; exact h5)
        subst h5
        clear hp hq ht h2
        go_wp2
        go_roundw
        case rel =>
          refine ⟨k + 1, by omega, by go_num, ?_, ?_⟩
          · repeat (first | (with_reducible refine Below.setCell ?_ (by first | (dsimp only; omega) | (simp; omega)) _) | (with_reducible refine Below.alloc ?_ (by first | omega | (simp; omega) | (simp [World.setCell]; omega)) _))
            exact HL.out
          · rw [cnt_yes ⟨HPk.out, HIk.out, HTk.out⟩, cnt_no (.inr (.inl (by rw [HIk.out]; decide))), cnt_no (.inr (.inl (by rw [HIk.out]; decide)))]
            exact (HC3.out.set 0 _ rfl).below ((Below.refl _ _).alloc (Nat.le_refl _) _) (by first | (simp; omega) | (simp [World.setCell]; omega))
        case measure => (simp [intOf]) <;> omega
      · have HIk := hide (show s.I k = 1 by rw [← hq]; exact h5)
        subst h5
        clear hp hq ht h2
        go_wp2
        go_roundw
        case rel =>
          refine ⟨k + 1, by omega, by go_num, ?_, ?_⟩
          · repeat (first | (with_reducible refine Below.setCell ?_ (by first | (dsimp only; omega) | (simp; omega)) _) | (with_reducible refine Below.alloc ?_ (by first | omega | (simp; omega) | (simp [World.setCell]; omega)) _))
            exact HL.out
          · rw [cnt_no (.inr (.inl (by rw [HIk.out]; decide))), cnt_yes ⟨HPk.out, HIk.out, HTk.out⟩, cnt_no (.inr (.inl (by rw [HIk.out]; decide)))]
            exact (HC3.out.set 1 _ rfl).below ((Below.refl _ _).alloc (Nat.le_refl _) _) (by first | (simp; omega) | (simp [World.setCell]; omega))
        case measure => (simp [intOf]) <;> omega
      · have HIk := hide (show s.I k = 2 by rw [← hq]; exact h5)
        subst h5
        clear hp hq ht h2
        go_wp2
        go_roundw
        case rel =>
          refine ⟨k + 1, by omega, by go_num, ?_, ?_⟩
          · repeat (first | (with_reducible refine Below.setCell ?_ (by first | (dsimp only; omega) | (simp; omega)) _) | (with_reducible refine Below.alloc ?_ (by first | omega | (simp; omega) | (simp [World.setCell]; omega)) _))
            exact HL.out
          · rw [cnt_no (.inr (.inl (by rw [HIk.out]; decide))), cnt_no (.inr (.inl (by rw [HIk.out]; decide))), cnt_yes ⟨HPk.out, HIk.out, HTk.out⟩]
            exact (HC3.out.set 2 _ rfl).below ((Below.refl _ _).alloc (Nat.le_refl _) _) (by first | (simp; omega) | (simp [World.setCell]; omega))
        case measure => (simp [intOf]) <;> omega
    · obtain rfl : k = 12 := by omega
      obtain ⟨d0, d1, d2, df⟩ := R0w.out.cells
      go_wp2
      refine bodyPost_ret (v := .agg #[.int .i64 (cnt s u 0 12), .int .i64 (cnt s u 1 12), .int .i64 (cnt s u 2 12)]) (by simp [results, Tryd.results31, go_sem, *]) rfl ?_
      refine ⟨rfl, ?_⟩
      repeat (with_reducible refine Below.setCell ?_ (by first | (dsimp only; omega) | (simp; omega)) _)
      exact HB.out.trans (HL.out.mono (by omega))
end Go.Proofs.YtnmpoeljjajdiaaDoor.Vot
