
/- The contracts of layer 6: the small functions. -/
import Derived.Test.YtnmpoeljjajdiaaDoorLeapPlain
namespace Go.Proofs.YtnmpoeljjajdiaaDoor.Leap
open Go.RowKit Aid Civ
theorem within_any (n M : Int) (w : World) (h0 : 0 ≤ M) (h1 : M ≤ 8000000000) : Calls Tryd.prog 23 #[.int .i64 n, .int .i64 M] w fun e w' => e = .returned (.bool (inB n (-M) M)) ∧ w = w' := by
  have hw : IntKind.i64.wrap (-M) = -M := IntWalk.i64_in _ (by omega)
  by_cases hc : -M ≤ n
  · have hd : decide (-M ≤ n) = true := decide_eq_true hc
    go_enter Tryd.func23, Tryd.ntmps23
    go_wp2
    go_ret
    exact ⟨ret_bool (by simp [inB, hc]), by first | rfl | trivial⟩
  · have hd : decide (-M ≤ n) = false := decide_eq_false hc
    go_enter Tryd.func23, Tryd.ntmps23
    go_wp2
    go_ret
    exact ⟨ret_bool (by unfold inB; simp; omega), by first | rfl | trivial⟩
theorem five {a b c d : Bool} : a = false ∨ (a = true ∧ b = false) ∨ (a = true ∧ b = true ∧ c = false) ∨ (a = true ∧ b = true ∧ c = true ∧ d = false) ∨ (a = true ∧ b = true ∧ c = true ∧ d = true) := by
  cases a <;> cases b <;> cases c <;> cases d <;> simp
theorem begB_out {sec : Int} (h : ¬ (-8000000000 ≤ sec ∧ sec ≤ 8000000000)) : begB sec = false := by unfold begB; rw [inB_f h]; rfl
theorem begB_in {sec : Int} (h : -8000000000 ≤ sec ∧ sec ≤ 8000000000) : begB sec = ((dateOf (sec / 86400)).2.2 == 1 && sec % 86400 / 3600 == 0 && sec % 86400 / 60 % 60 == 0 && sec % 86400 % 60 == 0) := by unfold begB; rw [inB_t h, Bool.true_and]
set_option maxHeartbeats 1600000 in
theorem monthStart_any (sec : Int) (w : World) (l : Laid w) : Calls Tryd.prog 29 #[.int .i64 sec] w fun e w' => e = .returned (.bool (begB sec)) ∧ Below w.heap.size w w' := by
  by_cases h : -8000000000 ≤ sec ∧ sec ≤ 8000000000
  · have c := Of_ok sec w l h
    unfold ofV at c
    rw [begB_in h]
    generalize (dateOf (sec / 86400)).1 = y at *
    generalize ((dateOf (sec / 86400)).2.1 : Int) = m at *
    generalize (dateOf (sec / 86400)).2.2 = d at *
    generalize sec % 86400 / 3600 = H at *
    generalize sec % 86400 / 60 % 60 = I at *
    generalize sec % 86400 % 60 = S at *
    have C := hide c
    clear c h l
    rcases @five (d == 1) (H == 0) (I == 0) (S == 0) with h1 | ⟨h1, h2⟩ | ⟨h1, h2, h3⟩ | ⟨h1, h2, h3, h4⟩ | ⟨h1, h2, h3, h4⟩
    all_goals
      go_enter Tryd.func29, Tryd.ntmps29
      go_wp2_with fail
      refine C.out.mono ?_
      rintro e w1 ⟨rfl, hb⟩
      go_wp2
      go_ret
      exact ⟨ret_bool (by simp [*]), hb.alloc hb.size _⟩
  · have C := hide (Of_bad sec w h)
    rw [begB_out h]
    unfold zeroV at C
    clear h l
    go_enter Tryd.func29, Tryd.ntmps29
    go_wp2_with fail
    refine C.out.mono ?_
    rintro e w1 ⟨rfl, hb⟩
    go_wp2
    go_ret
    exact ⟨rfl, hb.alloc hb.size _⟩
set_option maxHeartbeats 1600000 in
theorem step_any (B X : Int) (a : Option Addr) (n cap : Nat) (A O : Nat → Int) (k : Nat) (w : World) (hr : Ents w a n A O) (hk : k < n) (hB : -1000 ≤ B ∧ B ≤ 1000) (hO : ∀ i, i < n → -1000 ≤ O i ∧ O i ≤ 1000) :
    Calls Tryd.prog 21 #[.agg #[.int .i64 B, .int .i64 X, .slice a n cap], .int .i64 k] w fun e w' => e = .returned (.int .i64 (O k - oldO B O k)) ∧ Below w.heap.size w w' := by
  obtain ⟨b, off, rfl, hlt, hc⟩ := hr.2 (by omega)
  have hn := hr.1
  have HC := Lib.hid hc
  clear hc hr
  obtain ⟨hc0, hc1⟩ := HC.out k hk
  have hb1 : Below w.heap.size w (w.alloc (.cells #[.int .i64 B, .int .i64 X, .slice (some ⟨b, off, none⟩) n cap] 24)) := (Below.refl _ _).alloc (Nat.le_refl _) _
  have HB := hide hb1
  have o1 := hO k hk
  obtain ⟨o1, o2⟩ := o1
  obtain ⟨B1, B2⟩ := hB
  by_cases hk0 : k = 0
  · subst hk0
    simp only [Nat.zero_mul, Nat.add_zero] at hc0 hc1
    have hw : IntKind.i64.wrap (O 0 - B) = O 0 - B := IntWalk.i64_in _ (by omega)
    clear hO
    go_enter Tryd.func21, Tryd.ntmps21
    go_wp2
    go_quiet (fail)
    go_wp2
    go_ret
    exact ⟨ret_int (by simp [oldO]), below_drewN HB.out _⟩
  · have hz1 : ((k : Int) == 0) = false := by simp; omega
    have hcp := (HC.out (k - 1) (by omega)).2
    have hcp2 : (w.alloc (.cells #[.int .i64 B, .int .i64 X, .slice (some ⟨b, off, none⟩) n cap] 24)).cell? ⟨b, off + (k - 1) * 2 + 1, none⟩ = some (.int .i64 (O (k - 1))) := (HB.out.cell (p := ⟨b, off + (k - 1) * 2 + 1, none⟩) hlt).trans hcp
    obtain ⟨p1, p2⟩ := hO (k - 1) (by omega)
    have hw : IntKind.i64.wrap (O k - O (k - 1)) = O k - O (k - 1) := IntWalk.i64_in _ (by omega)
    clear hO
    go_enter Tryd.func21, Tryd.ntmps21
    go_wp2
    go_quiet (fail)
    go_wp2
    go_ret
    exact ⟨ret_int (by simp [oldO, hk0]), below_drewN HB.out _⟩
end Go.Proofs.YtnmpoeljjajdiaaDoor.Leap
