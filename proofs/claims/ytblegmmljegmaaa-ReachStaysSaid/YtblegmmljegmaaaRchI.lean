/- The examples of the chapter (awake). -/
import Derived.Test.YtblegmmljegmaaaRchH
import Derived.Test.YtblegmmljegmaaaRchD
namespace Go.Proofs.Ytblegmmljegmaaa.Rch
open Go.RowKit Go.Maps Aid
structure Two (w : World) (b : Nat) (W : World) : Prop where
  r0 : W.cell? ⟨b, 0, none⟩ = some (.int .i64 12)
  r1 : W.cell? ⟨b, 1, none⟩ = some (.int .i64 6)
  r2 : W.cell? ⟨b, 2, none⟩ = some (.int .i64 3)
  r3 : W.cell? ⟨b, 3, none⟩ = some (.int .i64 17)
  r4 : W.cell? ⟨b, 4, none⟩ = some (.int .i64 25)
  s0 : W.cell? ⟨b + 1, 0, none⟩ = some (.int .i64 128)
  s1 : W.cell? ⟨b + 1, 1, none⟩ = some (.int .i64 17)
  s2 : W.cell? ⟨b + 1, 2, none⟩ = some (.int .i64 17)
  s3 : W.cell? ⟨b + 1, 3, none⟩ = some (.int .i64 17)
  s4 : W.cell? ⟨b + 1, 4, none⟩ = some (.int .i64 0)
  lt : b + 1 < W.heap.size
  below : Below b w W
theorem Two.step {w W W' : World} {b : Nat} (t : Two w b W) (h : Below W.heap.size W W') : Two w b W' := by
  have l := t.lt
  have c : ∀ j, W'.cell? ⟨b, j, none⟩ = W.cell? ⟨b, j, none⟩ := fun j => h.cell (p := ⟨b, j, none⟩) (show b < W.heap.size by omega)
  have c' : ∀ j, W'.cell? ⟨b + 1, j, none⟩ = W.cell? ⟨b + 1, j, none⟩ := fun j => h.cell (p := ⟨b + 1, j, none⟩) (show b + 1 < W.heap.size by omega)
  have := h.size
  exact ⟨(c 0).trans t.r0, (c 1).trans t.r1, (c 2).trans t.r2, (c 3).trans t.r3, (c 4).trans t.r4, (c' 0).trans t.s0, (c' 1).trans t.s1, (c' 2).trans t.s2, (c' 3).trans t.s3, (c' 4).trans t.s4, by omega, t.below.trans (h.mono (by omega))⟩
theorem two_start (w : World) : Two w w.heap.size ((w.alloc (.cells #[.int .i64 12, .int .i64 6, .int .i64 3, .int .i64 17, .int .i64 25] 23)).alloc (.cells #[.int .i64 128, .int .i64 17, .int .i64 17, .int .i64 17, .int .i64 0] 23)) := by
  constructor <;> try simp [go_sem]
  exact ((Below.refl _ _).alloc (Nat.le_refl _) _).alloc (by simp) _
theorem x_heard (W : World) : Calls Try.prog 16 #[.agg #[.int .i64 12, .int .i64 6, .int .i64 3, .int .i64 17, .int .i64 25]] W fun e w' => e = .returned (.int .i64 2) ∧ Below W.heap.size W w' := by
  have := Heard_any 12 6 3 17 25 W
  rwa [show (if chk ⟨12, 6, 3, 17, 25⟩ = 0 then (heardN 12 : Int) else 0) = 2 from by decide +kernel] at this
theorem x_lost (W : World) : Calls Try.prog 18 #[.agg #[.int .i64 12, .int .i64 6, .int .i64 3, .int .i64 17, .int .i64 25]] W fun e w' => e = .returned (.int .i64 2) ∧ Below W.heap.size W w' := by
  have := Lost_any 12 6 3 17 25 W
  rwa [show (if chk ⟨12, 6, 3, 17, 25⟩ = 0 then (lostN 12 : Int) else 0) = 2 from by decide +kernel] at this
theorem x_lost2 (W : World) : Calls Try.prog 18 #[.agg #[.int .i64 128, .int .i64 17, .int .i64 17, .int .i64 17, .int .i64 0]] W fun e w' => e = .returned (.int .i64 7) ∧ Below W.heap.size W w' := by
  have := Lost_any 128 17 17 17 0 W
  rwa [show (if chk ⟨128, 17, 17, 17, 0⟩ = 0 then (lostN 128 : Int) else 0) = 7 from by decide +kernel] at this
theorem x_check (W : World) : Calls Try.prog 12 #[.agg #[.int .i64 12, .int .i64 6, .int .i64 3, .int .i64 17, .int .i64 25]] W fun e w' => e = .returned (.int .i64 0) ∧ Below W.heap.size W w' := by
  have := Check_any 12 6 3 17 25 W
  rwa [show chk ⟨12, 6, 3, 17, 25⟩ = 0 from by decide +kernel] at this
theorem x_adapt (W : World) : Calls Try.prog 9 #[.agg #[.int .i64 12, .int .i64 6, .int .i64 3, .int .i64 17, .int .i64 25], .int .i64 1, .int .i64 1] W fun e w' => e = .returned (.agg #[.int .i64 12, .int .i64 7, .int .i64 3, .int .i64 17, .int .i64 0]) ∧ Below W.heap.size W w' := by
  have := Adapt_any 12 6 3 17 25 1 1 (by omega) (by omega) (by omega) (by omega) W
  rwa [show adapt ⟨12, 6, 3, 17, 25⟩ 1 1 = ⟨12, 7, 3, 17, 0⟩ from by rfl] at this
theorem x_shift (W : World) : Calls Try.prog 22 #[.agg #[.int .i64 128, .int .i64 17, .int .i64 17, .int .i64 17, .int .i64 0], .bool true] W fun e w' => e = .returned (.agg #[.int .i64 1, .int .i64 17, .int .i64 17, .int .i64 17, .int .i64 0]) ∧ Below W.heap.size W w' := by
  have := Shift_any 128 17 17 17 0 true W
  rwa [show shift ⟨128, 17, 17, 17, 0⟩ true = ⟨1, 17, 17, 17, 0⟩ from by rfl] at this
theorem x_wait (W : World) : Calls Try.prog 20 #[.agg #[.int .i64 128, .int .i64 17, .int .i64 17, .int .i64 17, .int .i64 0]] W fun e w' => e = .returned (.int .i64 131072000000000) ∧ Below W.heap.size W w' := by
  have := Wait_any 128 17 17 17 0 W
  rwa [show waitV ⟨128, 17, 17, 17, 0⟩ = 131072000000000 from by decide +kernel] at this
set_option maxRecDepth 100000 in
set_option maxHeartbeats 3200000 in
theorem awake_any (w : World) : Calls Try.prog 11 #[] w fun e w' => e = .returned (.bool true) ∧ Below w.heap.size w w' := by
  have C1 := hide x_heard
  have C2 := hide x_lost
  have C3 := hide x_adapt
  have C4 := hide x_lost2
  have C5 := hide x_wait
  have C6 := hide x_check
  have C7 := hide x_shift
  go_enter Try.func11, Try.ntmps11
  go_wp2_with fail
  refine (C1.out _).mono ?_
  rintro e w1 ⟨rfl, hb⟩
  have T := (two_start w).step hb
  obtain ⟨r0, r1, r2, r3, r4, s0, s1, s2, s3, s4, _, _⟩ := id T
  have HT := hide T
  clear T hb
  go_wp2_with fail
  refine (C2.out _).mono ?_
  rintro e w2 ⟨rfl, hb⟩
  have T := HT.out.step hb
  clear r0 r1 r2 r3 r4 s0 s1 s2 s3 s4
  obtain ⟨r0, r1, r2, r3, r4, s0, s1, s2, s3, s4, _, _⟩ := id T
  have HT := hide T
  clear T hb
  go_wp2_with fail
  refine (C3.out _).mono ?_
  rintro e w3 ⟨rfl, hb⟩
  have T := HT.out.step hb
  clear r0 r1 r2 r3 r4 s0 s1 s2 s3 s4
  obtain ⟨r0, r1, r2, r3, r4, s0, s1, s2, s3, s4, _, _⟩ := id T
  have HT := hide T
  clear T hb
  go_wp2_with fail
  refine (C4.out _).mono ?_
  rintro e w4 ⟨rfl, hb⟩
  have T := HT.out.step hb
  clear r0 r1 r2 r3 r4 s0 s1 s2 s3 s4
  obtain ⟨r0, r1, r2, r3, r4, s0, s1, s2, s3, s4, _, _⟩ := id T
  have HT := hide T
  clear T hb
  go_wp2_with fail
  refine (C5.out _).mono ?_
  rintro e w5 ⟨rfl, hb⟩
  have T := HT.out.step hb
  clear r0 r1 r2 r3 r4 s0 s1 s2 s3 s4
  obtain ⟨r0, r1, r2, r3, r4, s0, s1, s2, s3, s4, _, _⟩ := id T
  have HT := hide T
  clear T hb
  go_wp2_with fail
  refine (C6.out _).mono ?_
  rintro e w6 ⟨rfl, hb⟩
  have T := HT.out.step hb
  clear r0 r1 r2 r3 r4 s0 s1 s2 s3 s4
  obtain ⟨r0, r1, r2, r3, r4, s0, s1, s2, s3, s4, _, _⟩ := id T
  have HT := hide T
  clear T hb
  go_wp2_with fail
  refine (C7.out _).mono ?_
  rintro e w7 ⟨rfl, hb⟩
  have T := HT.out.step hb
  clear r0 r1 r2 r3 r4 s0 s1 s2 s3 s4
  obtain ⟨r0, r1, r2, r3, r4, s0, s1, s2, s3, s4, _, _⟩ := id T
  have HT := hide T
  clear T hb
  go_wp2
  go_ret
  exact ⟨rfl, HT.out.below⟩
end Go.Proofs.Ytblegmmljegmaaa.Rch
