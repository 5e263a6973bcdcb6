/- The contracts of same and few. -/
import Derived.Test.YtjjhdigbgmbmnaaSkwV
namespace Go.Proofs.Ytjjhdigbgmbmnaa.Skw
open Go.RowKit Aid Fx
theorem row_cell {w : World} {base : Nat} {e : TypeId} {v : Value} {l : List Nat} (h : w.ownsRow base e 1 v l.length (ints l)) (h0 : 0 < l.length) :
    ∃ g cap, v = .slice (some ⟨g, 0, none⟩) l.length cap ∧ g < w.heap.size ∧ ∀ i, i < l.length → w.cell? ⟨g, i, none⟩ = some (.int .i64 ((l.getD i 0 : Nat) : Int)) := by
  rcases h.2 with ⟨_, h1⟩ | ⟨g, cap, cur, rfl, hb, hg, hn, hm, hs, ht⟩
  · omega
  · refine ⟨g, cap, rfl, (Array.getElem?_eq_some_iff.1 hg).1, fun i hi => (cell_of_row w g i _ _ _ hg).trans ?_⟩
    rw [← Array.getElem?_toList, ← List.getElem?_take_of_lt (show i < l.length * 1 by omega), ht]
    unfold ints
    rw [List.getElem?_map, List.getElem?_eq_getElem hi]
    simp [List.getD, List.getElem?_eq_getElem hi]
theorem list_ext {l m : List Nat} (h : l.length = m.length) (k : ∀ i, i < l.length → l.getD i 0 = m.getD i 0) : l = m := by
  apply List.ext_getElem h
  intro i h1 h2
  have := k i h1
  simpa [List.getD, List.getElem?_eq_getElem h1, List.getElem?_eq_getElem h2] using this
set_option maxRecDepth 100000 in
set_option maxHeartbeats 3200000 in
theorem same_any (l m : List Nat) (v u : Value) (b1 b2 : Nat) (w : World) (hv : w.ownsRow b1 3 1 v l.length (ints l)) (hu : w.ownsRow b2 3 1 u m.length (ints m)) (hl : l.length ≤ 1024) (hm : m.length ≤ 1024) :
    Calls Try.prog 18 #[v, u] w fun e w' => e = .returned (.bool (decide (l = m))) ∧ Below w.heap.size w w' := by
  by_cases hlm : l.length = m.length
  · by_cases h0 : l.length = 0
    · have e1 : l = [] := List.eq_nil_of_length_eq_zero h0
      have e2 : m = [] := List.eq_nil_of_length_eq_zero (by omega)
      obtain ⟨p1, c1, hv1⟩ := (row_len hv).2
      obtain ⟨p2, c2, hu1⟩ := (row_len hu).2
      subst e1 e2
      simp only [List.length_nil] at hv1 hu1
      subst hv1 hu1
      clear hv hu hl hm hlm h0
      go_enter Try.func18, Try.ntmps18
      go_wp2
      go_loopw [5] (fun i wr => i = .int .i64 0 ∧ wr = w) (fun i _ => 0)
      case atStart => exact ⟨rfl, rfl⟩
      case round =>
        obtain ⟨rfl, rfl⟩ := hrel
        go_wp2
        go_ret
        exact ⟨by simp, Below.refl _ _⟩
    · obtain ⟨g, c1, hv1, hg, HA⟩ := row_cell hv (by omega)
      obtain ⟨g2, c2, hu1, hg2, HB⟩ := row_cell hu (by omega)
      obtain ⟨R, hR⟩ : ∃ R, R = decide (l = m) := ⟨_, rfl⟩
      rw [← hR]
      have HR := hide hR
      have HL := hide hlm
      rw [← hlm] at hu1 HB
      subst hv1 hu1
      generalize hn : l.length = n at *
      have HN := hide hn
      have HAA := hide HA
      have HBB := hide HB
      clear hv hu hlm hR hm HA HB hn
      go_enter Try.func18, Try.ntmps18
      go_wp2
      go_loopw [5] (fun i wr => ∃ k : Nat, k ≤ n ∧ i = .int .i64 k ∧ (∀ j, j < k → l.getD j 0 = m.getD j 0) ∧ ∃ z, wr = w.drewN z) (fun i _ => n - (intOf i).toNat)
      case atStart => exact ⟨0, Nat.zero_le _, rfl, fun j hj => absurd hj (by omega), 0, rfl⟩
      case round =>
        obtain ⟨k, hk, rfl, hs, z, rfl⟩ := hrel
        by_cases hkn : k < n
        · have hkq : (k : Int) < (n : Int) := by omega
          have a0 := HAA.out k hkn
          have b0 := HBB.out k hkn
          have HS := hide hs
          clear hs
          by_cases he : l.getD k 0 = m.getD k 0
          · rw [← he] at b0
            generalize l.getD k 0 = x at a0 b0
            have HE := hide he
            clear he
            go_wp2
            go_quiet (fail)
            go_wp2
            go_roundw
            case rel => exact ⟨k + 1, by omega, by go_num, fun j hj => by
              rcases Nat.lt_or_ge j k with h | h
              · exact HS.out j h
              · obtain rfl : j = k := by omega
                exact HE.out, _, rfl⟩
            case measure => (simp [intOf]) <;> omega
          · have hR : R = false := by rw [HR.out, decide_eq_false_iff_not]; rintro rfl; exact he rfl
            subst hR
            generalize l.getD k 0 = x at a0 he
            generalize m.getD k 0 = y at b0 he
            have hxy : ((x : Int) != (y : Int)) = true := by simp; omega
            clear he
            go_wp2
            go_quiet (fail)
            go_wp2
            go_ret
            exact ⟨rfl, below_drewN (below_drewN (Below.refl _ _) _) _⟩
        · have hkk : decide ((k : Int) < (n : Int)) = false := by simp; omega
          have hR : R = true := by rw [HR.out, decide_eq_true_iff]; exact list_ext (HN.out.trans HL.out) (fun i hi => hs i (by have := HN.out; omega))
          subst hR
          clear hs
          go_wp2
          go_ret
          exact ⟨rfl, below_drewN (Below.refl _ _) _⟩
  · obtain ⟨p1, c1, hv1⟩ := (row_len hv).2
    obtain ⟨p2, c2, hu1⟩ := (row_len hu).2
    have hR : decide (l = m) = false := by simp; rintro rfl; exact hlm rfl
    rw [hR]
    subst hv1 hu1
    generalize l.length = n at *
    generalize m.length = k at *
    have hxy : ((n : Int) != (k : Int)) = true := by simp; omega
    clear hv hu hR hlm
    go_enter Try.func18, Try.ntmps18
    go_wp2
    go_ret
    exact ⟨rfl, Below.refl _ _⟩
theorem few_any (a : Option Addr) (n cap : Nat) (w : World) :
    Calls Try.prog 10 #[.slice a n cap] w fun e w' => e = .returned (.bool (decide (n ≤ 24))) ∧ Below w.heap.size w w' := by
  have e : decide ((n : Int) ≤ 24) = decide (n ≤ 24) := by rw [decide_eq_decide]; omega
  go_enter Try.func10, Try.ntmps10
  go_wp2
  go_ret
  refine ⟨?_, Below.refl _ _⟩
  first | rfl | exact ret_bool e
end Go.Proofs.Ytjjhdigbgmbmnaa.Skw
