
/- The contracts of layer 54: Vote. -/
import Derived.Test.YtnmpoeljjajdiaaDoorVotB
namespace Go.Proofs.YtnmpoeljjajdiaaDoor.Vot
open Go.RowKit Aid Civ Leap
theorem cellP_k (s : Vt) (k : Nat) : cellP s (3 + k * 3) = .bool (s.P k) ∧ cellP s (3 + k * 3 + 1) = .int .i64 (s.I k) ∧ cellP s (3 + k * 3 + 2) = .int .i64 (s.T k) := by
  unfold cellP
  refine ⟨?_, ?_, ?_⟩
  · rw [if_neg (show ¬ 3 + k * 3 = 0 by omega), if_neg (show ¬ 3 + k * 3 = 1 by omega), if_neg (show ¬ 3 + k * 3 = 2 by omega), if_pos (show (3 + k * 3 - 3) % 3 = 0 by omega), show (3 + k * 3 - 3) / 3 = k by omega]
  · rw [if_neg (show ¬ 3 + k * 3 + 1 = 0 by omega), if_neg (show ¬ 3 + k * 3 + 1 = 1 by omega), if_neg (show ¬ 3 + k * 3 + 1 = 2 by omega), if_neg (show ¬ (3 + k * 3 + 1 - 3) % 3 = 0 by omega), if_pos (show (3 + k * 3 + 1 - 3) % 3 = 1 by omega), show (3 + k * 3 + 1 - 3) / 3 = k by omega]
  · rw [if_neg (show ¬ 3 + k * 3 + 2 = 0 by omega), if_neg (show ¬ 3 + k * 3 + 2 = 1 by omega), if_neg (show ¬ 3 + k * 3 + 2 = 2 by omega), if_neg (show ¬ (3 + k * 3 + 2 - 3) % 3 = 0 by omega), if_neg (show ¬ (3 + k * 3 + 2 - 3) % 3 = 1 by omega), show (3 + k * 3 + 2 - 3) / 3 = k by omega]
theorem cellR_k (s : Vt) (k : Nat) (hk : k < 12) : cellR s (1 + k) = .int .i64 (s.I k) ∧ cellR s (13 + k) = .int .i64 (s.T k) ∧ cellR s (25 + k) = .bool (s.P k) := by
  unfold cellR
  refine ⟨?_, ?_, ?_⟩
  · rw [if_neg (show ¬ 1 + k = 0 by omega), if_pos (show 1 + k < 13 by omega), show 1 + k - 1 = k by omega]
  · rw [if_neg (show ¬ 13 + k = 0 by omega), if_neg (show ¬ 13 + k < 13 by omega), if_pos (show 13 + k < 25 by omega), show 13 + k - 13 = k by omega]
  · rw [if_neg (show ¬ 25 + k = 0 by omega), if_neg (show ¬ 25 + k < 13 by omega), if_neg (show ¬ 25 + k < 25 by omega), if_pos (show 25 + k < 37 by omega), show 25 + k - 25 = k by omega]
set_option maxRecDepth 100000 in
set_option maxHeartbeats 3200000 in
theorem PVote_range (s : Vt) (g : Nat) (k i u : Int) (w : World) (h : PAt w g s) (hr : ¬ (0 ≤ k ∧ k < s.n ∧ 0 ≤ i ∧ i ≤ 3 ∧ -8000000000 ≤ u ∧ u ≤ 8000000000)) :
    Calls Tryd.prog 13 #[.pointer (some ⟨g, 0, none⟩), .int .i64 k, .int .i64 i, .int .i64 u] w (Voted PAt w g 3 s) := by
  have c0 : w.cell? ⟨g, 0, none⟩ = some (.int .i64 s.n) := h.cell 0 (by omega)
  have H := hide h
  clear h
  have CI := hide fun W => isSecond_any u W
  by_cases h1 : k < 0
  · clear CI
    go_enter Tryd.func13, Tryd.ntmps13
    go_wp2
    go_ret
    exact ⟨rfl, World.grownBy.refl _ _, H.out⟩
  by_cases h2 : s.n ≤ k
  · clear CI
    go_enter Tryd.func13, Tryd.ntmps13
    go_wp2
    go_ret
    exact ⟨rfl, World.grownBy.refl _ _, H.out⟩
  by_cases h3 : i < 0
  · clear CI
    go_enter Tryd.func13, Tryd.ntmps13
    go_wp2
    go_ret
    exact ⟨rfl, World.grownBy.refl _ _, H.out⟩
  by_cases h4 : 3 < i
  · clear CI
    go_enter Tryd.func13, Tryd.ntmps13
    go_wp2
    go_ret
    exact ⟨rfl, World.grownBy.refl _ _, H.out⟩
  have hu : inB u (-8000000000) 8000000000 = false := inB_f (by omega)
  rw [hu] at CI
  go_enter Tryd.func13, Tryd.ntmps13
  go_wp2_with fail
  with_reducible refine (CI.out _).mono ?_
  rintro e _ ⟨rfl, rfl⟩
  go_wp2
  go_ret
  exact ⟨rfl, World.grownBy.refl _ _, H.out⟩
set_option maxRecDepth 100000 in
set_option maxHeartbeats 3200000 in
theorem PVote_order (s : Vt) (g : Nat) (k i u : Int) (w : World) (h : PAt w g s) (hr : 0 ≤ k ∧ k < s.n ∧ 0 ≤ i ∧ i ≤ 3 ∧ -8000000000 ≤ u ∧ u ≤ 8000000000) (ho : s.c = true ∧ u < s.L) :
    Calls Tryd.prog 13 #[.pointer (some ⟨g, 0, none⟩), .int .i64 k, .int .i64 i, .int .i64 u] w (Voted PAt w g 12 s) := by
  have c0 : w.cell? ⟨g, 0, none⟩ = some (.int .i64 s.n) := h.cell 0 (by omega)
  have c1 : w.cell? ⟨g, 1, none⟩ = some (.bool s.c) := h.cell 1 (by omega)
  have c2 : w.cell? ⟨g, 2, none⟩ = some (.int .i64 s.L) := h.cell 2 (by omega)
  obtain ⟨h1, h2, h3, h4, h5, h6⟩ := hr
  obtain ⟨h7, h8⟩ := ho
  rw [h7] at c1
  have H := hide h
  have CI := hide fun W => isSecond_any u W
  rw [inB_t ⟨h5, h6⟩] at CI
  clear h h7
  go_enter Tryd.func13, Tryd.ntmps13
  go_wp2_with fail
  with_reducible refine (CI.out _).mono ?_
  rintro e _ ⟨rfl, rfl⟩
  go_wp2
  go_ret
  exact ⟨rfl, World.grownBy.refl _ _, H.out⟩
set_option maxRecDepth 100000 in
set_option maxHeartbeats 3200000 in
theorem PVote_fine (s : Vt) (g : Nat) (K : Nat) (i u : Int) (w : World) (h : PAt w g s) (hk : K < 12) (hn : (K : Int) < s.n) (hr : 0 ≤ i ∧ i ≤ 3 ∧ -8000000000 ≤ u ∧ u ≤ 8000000000) (ho : ¬ (s.c = true ∧ u < s.L)) :
    Calls Tryd.prog 13 #[.pointer (some ⟨g, 0, none⟩), .int .i64 K, .int .i64 i, .int .i64 u] w (Voted PAt w g 0 (s.put K i u)) := by
  have c0 : w.cell? ⟨g, 0, none⟩ = some (.int .i64 s.n) := h.cell 0 (by omega)
  have c1 : w.cell? ⟨g, 1, none⟩ = some (.bool s.c) := h.cell 1 (by omega)
  have c2 : w.cell? ⟨g, 2, none⟩ = some (.int .i64 s.L) := h.cell 2 (by omega)
  have k0 : w.cell? ⟨g, 3 + K * 3, none⟩ = some (.bool (s.P K)) := by rw [← (cellP_k s K).1]; exact h.cell _ (by omega)
  have k1 : w.cell? ⟨g, 3 + K * 3 + 1, none⟩ = some (.int .i64 (s.I K)) := by rw [← (cellP_k s K).2.1]; exact h.cell _ (by omega)
  have k2 : w.cell? ⟨g, 3 + K * 3 + 2, none⟩ = some (.int .i64 (s.T K)) := by rw [← (cellP_k s K).2.2]; exact h.cell _ (by omega)
  obtain ⟨h3, h4, h5, h6⟩ := hr
  have hfr : ∀ j, w.frozen? ⟨g, j, none⟩ = false := fun j => h.free j
  have F : PAt (((((w.setCell ⟨g, 1, none⟩ (.bool true)).setCell ⟨g, 2, none⟩ (.int .i64 u)).setCell ⟨g, 3 + K * 3, none⟩ (.bool true)).setCell ⟨g, 3 + K * 3 + 1, none⟩ (.int .i64 i)).setCell ⟨g, 3 + K * 3 + 2, none⟩ (.int .i64 u)) g (s.put K i u) :=
    ((((h.set 1 (.bool true) (fun j => if j = 1 then .bool true else cellP s j) (fun _ _ => rfl)).set 2 (.int .i64 u) (fun j => if j = 2 then .int .i64 u else if j = 1 then .bool true else cellP s j) (fun _ _ => rfl)).set (3 + K * 3) (.bool true) (fun j => if j = 3 + K * 3 then .bool true else if j = 2 then .int .i64 u else if j = 1 then .bool true else cellP s j) (fun _ _ => rfl)).set (3 + K * 3 + 1) (.int .i64 i) (fun j => if j = 3 + K * 3 + 1 then .int .i64 i else if j = 3 + K * 3 then .bool true else if j = 2 then .int .i64 u else if j = 1 then .bool true else cellP s j) (fun _ _ => rfl)).set (3 + K * 3 + 2) (.int .i64 u) _ (votes_put hk)
  have H := hide F
  have CI := hide fun W => isSecond_any u W
  rw [inB_t ⟨h5, h6⟩] at CI
  clear h F
  have ways : s.c = false ∨ (s.c = true ∧ ¬ u < s.L) := by
    cases e : s.c
    · exact .inl rfl
    · exact .inr ⟨rfl, fun q => ho ⟨e, q⟩⟩
  clear ho
  rcases ways with h7 | ⟨h7, h8⟩
  all_goals
    rw [h7] at c1
    clear h7
    go_enter Tryd.func13, Tryd.ntmps13
    go_wp2_with fail
    with_reducible refine (CI.out _).mono ?_
    rintro e _ ⟨rfl, rfl⟩
    go_wp2
    go_ret
    refine ⟨rfl, ?_, H.out⟩
    repeat (with_reducible refine only_setCell ?_ (.inl rfl) _)
    exact World.grownBy.refl _ _
theorem PVote_any (s : Vt) (g : Nat) (k i u : Int) (w : World) (h : PAt w g s) (hi : Inv s) :
    Calls Tryd.prog 13 #[.pointer (some ⟨g, 0, none⟩), .int .i64 k, .int .i64 i, .int .i64 u] w (Voted PAt w g (vErr s k i u) (s.next k i u)) := by
  by_cases hr : 0 ≤ k ∧ k < s.n ∧ 0 ≤ i ∧ i ≤ 3 ∧ -8000000000 ≤ u ∧ u ≤ 8000000000
  · by_cases ho : s.c = true ∧ u < s.L
    · obtain ⟨e1, e2⟩ := vErr_order hr ho
      rw [e1, e2]
      exact PVote_order s g k i u w h hr ho
    · obtain ⟨e1, e2⟩ := vErr_fine hr ho
      rw [e1, e2]
      obtain ⟨a1, a2, a3⟩ := hr
      have n2 := hi.n2
      obtain ⟨K, rfl⟩ : ∃ K : Nat, k = (K : Int) := ⟨k.toNat, by omega⟩
      exact PVote_fine s g K i u w h (by omega) a2 a3 ho
  · obtain ⟨e1, e2⟩ := vErr_range hr
    rw [e1, e2]
    exact PVote_range s g k i u w h hr
end Go.Proofs.YtnmpoeljjajdiaaDoor.Vot
