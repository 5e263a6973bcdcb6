/- The contract of sort.Search at a closure with three captured variables. -/
import Derived.Test.YtcfmjoadbamdiaaAid
namespace Go.Proofs.Ytcfmjoadbamdiaa.Srch
open Go.RowKit Aid
set_option maxHeartbeats 1600000 in
theorem Search_any (N r : Int) (hN0 : 0 ≤ r) (hN : N ≤ 4000000000000000000) (hr : r ≤ N) (c1 c2 c3 : Value) (I : World → Prop)
    (hf : ∀ W (i : Int), I W → 0 ≤ i → i < N → Calls Try.prog 26 #[.int .i64 i, c1, c2, c3] W fun e w' => e = .returned (.bool (decide (r ≤ i))) ∧ I w') (w : World) (hw : I w) :
    Calls Try.prog 25 #[.int .i64 N, .func (Fn.func 26) #[] #[c1, c2, c3]] w fun e w' => e = .returned (.int .i64 r) ∧ I w' := by
  have HF := hide hf
  clear hf
  go_enter Try.func25, Try.ntmps25
  go_wp2
  go_loopw [5, 6] (fun i j wr => ∃ lo hi : Int, 0 ≤ lo ∧ lo ≤ r ∧ r ≤ hi ∧ hi ≤ N ∧ i = .int .i64 lo ∧ j = .int .i64 hi ∧ I wr) (fun i j _ => (intOf j - intOf i).toNat)
  case atStart => exact ⟨0, N, by omega, by omega, hr, by omega, rfl, rfl, hw⟩
  case round =>
    obtain ⟨lo, hi, h0, h1, h2, h3, rfl, rfl, hI⟩ := hrel
    have HI := hide hI
    clear hI
    by_cases hlt : lo < hi
    · have C := HF.out wr ((lo + hi) / 2) HI.out (by omega) (by omega)
      by_cases hm : r ≤ (lo + hi) / 2
      · rw [show decide (r ≤ (lo + hi) / 2) = true by simpa using hm] at C
        have HC := hide C
        clear C
        go_wp2_with (go_at_call 26; refine HC.out.mono ?_; rintro e w' ⟨rfl, hI'⟩; have HI' := hide hI'; clear hI')
        go_roundw
        case rel => exact ⟨lo, (lo + hi) / 2, by omega, by omega, by omega, by omega, rfl, rfl, Hid.out (by assumption)⟩
        case measure => simp [intOf]; omega
      · rw [show decide (r ≤ (lo + hi) / 2) = false by simpa using hm] at C
        have HC := hide C
        clear C
        go_wp2_with (go_at_call 26; refine HC.out.mono ?_; rintro e w' ⟨rfl, hI'⟩; have HI' := hide hI'; clear hI')
        go_roundw
        case rel => exact ⟨(lo + hi) / 2 + 1, hi, by omega, by omega, by omega, by omega, rfl, rfl, Hid.out (by assumption)⟩
        case measure => simp [intOf]; omega
    · go_wp2
      go_ret
      exact ⟨ret_int (by omega), HI.out⟩
/-- where a condition that stays true begins -/
theorem first_yes (p : Int → Prop) (hm : ∀ i, p i → p (i + 1)) (N : Nat) : ∃ r : Int, 0 ≤ r ∧ r ≤ N ∧ ∀ i : Int, 0 ≤ i → i < N → (p i ↔ r ≤ i) := by
  have up : ∀ d : Nat, ∀ i, p i → p (i + d) := by
    intro d
    induction d with
    | zero => intro i h; simpa using h
    | succ d ih => intro i h; have := hm _ (ih i h); rwa [show i + ((d + 1 : Nat) : Int) = i + d + 1 by omega]
  induction N with
  | zero => exact ⟨0, by omega, by omega, fun i h1 h2 => by omega⟩
  | succ N ih =>
    obtain ⟨r, r0, r1, hr⟩ := ih
    by_cases h : r < N
    · refine ⟨r, r0, by omega, fun i h1 h2 => ?_⟩
      by_cases hi : i < N
      · exact hr i h1 hi
      · have : i = N := by omega
        subst this
        refine ⟨fun _ => by omega, fun _ => ?_⟩
        have hp := (hr r r0 h).2 (Int.le_refl _)
        have := up (N - r.toNat) r hp
        rwa [show r + ((N - r.toNat : Nat) : Int) = N by omega] at this
    · have e : r = N := by omega
      by_cases hp : p N
      · refine ⟨N, by omega, by omega, fun i h1 h2 => ?_⟩
        by_cases hi : i < N
        · rw [← e]; exact hr i h1 hi
        · have : i = N := by omega
          subst this
          exact ⟨fun _ => by omega, fun _ => hp⟩
      · refine ⟨N + 1, by omega, by omega, fun i h1 h2 => ?_⟩
        by_cases hi : i < N
        · rw [hr i h1 hi]; omega
        · have : i = N := by omega
          subst this
          exact ⟨fun h => absurd h hp, fun h => by omega⟩
end Go.Proofs.Ytcfmjoadbamdiaa.Srch
