/- The machine of layer 27 (reach registers), and the contracts of Check and small of package reach and of its reference. -/
import Derived.Test.YtblegmmljegmaaaAid
import Derived.Handy
namespace Go.Proofs.Ytblegmmljegmaaa.Rch
open Go.RowKit Aid
structure Reg where
  bits : Int
  poll : Int
  mn : Int
  mx : Int
  cnt : Int
def chk (r : Reg) : Int :=
  if ¬ (0 ≤ r.bits ∧ r.bits ≤ 255 ∧ 3 ≤ r.mn ∧ r.mn ≤ 17 ∧ 3 ≤ r.mx ∧ r.mx ≤ 17) then 3
  else if r.mx < r.mn then 12
  else if ¬ (r.mn ≤ r.poll ∧ r.poll ≤ r.mx ∧ -30 ≤ r.cnt ∧ r.cnt ≤ 30) then 3 else 0
structure Ok (r : Reg) : Prop where
  b1 : 0 ≤ r.bits
  b2 : r.bits ≤ 255
  n1 : 3 ≤ r.mn
  n2 : r.mn ≤ 17
  x1 : 3 ≤ r.mx
  x2 : r.mx ≤ 17
  p1 : r.mn ≤ r.poll
  p2 : r.poll ≤ r.mx
  c1 : -30 ≤ r.cnt
  c2 : r.cnt ≤ 30
theorem chk_ok {r : Reg} (h : chk r = 0) : Ok r := by
  unfold chk at h
  split at h
  · omega
  · split at h
    · omega
    · split at h
      · omega
      · constructor <;> omega
theorem ok_chk {r : Reg} (k : Ok r) : chk r = 0 := by
  obtain ⟨_, _, _, _, _, _, _, _, _, _⟩ := k
  unfold chk
  rw [if_neg (by omega), if_neg (by omega), if_neg (by omega)]
def inB (n lo hi : Int) : Bool := decide (lo ≤ n ∧ n ≤ hi)
theorem within_any (n lo hi : Int) (w : World) : Calls Try.prog 29 #[.int .i64 n, .int .i64 lo, .int .i64 hi] w fun e w' => e = .returned (.bool (inB n lo hi)) ∧ w = w' := by
  by_cases h1 : lo ≤ n
  · by_cases h2 : n ≤ hi
    · rw [show inB n lo hi = true by unfold inB; simp; omega]
      go_enter Try.func29, Try.ntmps29
      go_wp2
      go_ret
      exact ⟨rfl, rfl⟩
    · rw [show inB n lo hi = false by unfold inB; simp; omega]
      go_enter Try.func29, Try.ntmps29
      go_wp2
      go_ret
      exact ⟨rfl, rfl⟩
  · rw [show inB n lo hi = false by unfold inB; simp; omega]
    go_enter Try.func29, Try.ntmps29
    go_wp2
    go_ret
    exact ⟨rfl, rfl⟩
theorem Rwithin_any (n lo hi : Int) (w : World) : Calls Try.prog 30 #[.int .i64 n, .int .i64 lo, .int .i64 hi] w fun e w' => e = .returned (.bool (inB n lo hi)) ∧ w = w' := by
  by_cases h1 : lo ≤ n
  · by_cases h2 : n ≤ hi
    · rw [show inB n lo hi = true by unfold inB; simp; omega]
      go_enter Try.func30, Try.ntmps30
      go_wp2
      go_ret
      exact ⟨rfl, rfl⟩
    · rw [show inB n lo hi = false by unfold inB; simp; omega]
      go_enter Try.func30, Try.ntmps30
      go_wp2
      go_ret
      exact ⟨rfl, rfl⟩
  · rw [show inB n lo hi = false by unfold inB; simp; omega]
    go_enter Try.func30, Try.ntmps30
    go_wp2
    go_ret
    exact ⟨rfl, rfl⟩
set_option maxHeartbeats 1600000 in
theorem Check_any (bits poll mn mx cnt : Int) (w : World) :
    Calls Try.prog 12 #[.agg #[.int .i64 bits, .int .i64 poll, .int .i64 mn, .int .i64 mx, .int .i64 cnt]] w fun e w' => e = .returned (.int .i64 (chk ⟨bits, poll, mn, mx, cnt⟩)) ∧ Below w.heap.size w w' := by
  have hb : Below w.heap.size w (w.alloc (.cells #[.int .i64 bits, .int .i64 poll, .int .i64 mn, .int .i64 mx, .int .i64 cnt] 23)) := (Below.refl _ _).alloc (Nat.le_refl _) _
  have HB := hide hb
  have C := hide within_any
  clear hb
  by_cases hbits : 0 ≤ bits ∧ bits ≤ 255
  · have bbits : inB bits 0 255 = true := by unfold inB; simpa using hbits
    by_cases hmn : 3 ≤ mn ∧ mn ≤ 17
    · have bmn : inB mn 3 17 = true := by unfold inB; simpa using hmn
      by_cases hmx : 3 ≤ mx ∧ mx ≤ 17
      · have bmx : inB mx 3 17 = true := by unfold inB; simpa using hmx
        by_cases ho : mx < mn
        · rw [show chk ⟨bits, poll, mn, mx, cnt⟩ = 12 by unfold chk; dsimp only; rw [if_neg (by omega), if_pos ho]]
          clear hbits hmn hmx
          go_enter Try.func12, Try.ntmps12
          go_wp2_with (go_at_call 29; refine (C.out _ _ _ _).mono ?_; rintro e w' ⟨rfl, rfl⟩)
          go_ret
          exact ⟨rfl, HB.out⟩
        · by_cases hpoll : mn ≤ poll ∧ poll ≤ mx
          · have bpoll : inB poll mn mx = true := by unfold inB; simpa using hpoll
            by_cases hcnt : -30 ≤ cnt ∧ cnt ≤ 30
            · have bcnt : inB cnt (-30) 30 = true := by unfold inB; simpa using hcnt
              rw [show chk ⟨bits, poll, mn, mx, cnt⟩ = 0 by unfold chk; dsimp only; rw [if_neg (by omega), if_neg ho, if_neg (by omega)]]
              clear hbits hmn hmx hpoll hcnt
              go_enter Try.func12, Try.ntmps12
              go_wp2_with (go_at_call 29; refine (C.out _ _ _ _).mono ?_; rintro e w' ⟨rfl, rfl⟩)
              go_ret
              exact ⟨rfl, HB.out⟩
            · have bcnt : inB cnt (-30) 30 = false := by unfold inB; simpa using hcnt
              rw [show chk ⟨bits, poll, mn, mx, cnt⟩ = 3 by unfold chk; dsimp only; rw [if_neg (by omega), if_neg ho, if_pos (by omega)]]
              clear hbits hmn hmx hpoll hcnt
              go_enter Try.func12, Try.ntmps12
              go_wp2_with (go_at_call 29; refine (C.out _ _ _ _).mono ?_; rintro e w' ⟨rfl, rfl⟩)
              go_ret
              exact ⟨rfl, HB.out⟩
          · have bpoll : inB poll mn mx = false := by unfold inB; simpa using hpoll
            rw [show chk ⟨bits, poll, mn, mx, cnt⟩ = 3 by unfold chk; dsimp only; rw [if_neg (by omega), if_neg ho, if_pos (by omega)]]
            clear hbits hmn hmx hpoll
            go_enter Try.func12, Try.ntmps12
            go_wp2_with (go_at_call 29; refine (C.out _ _ _ _).mono ?_; rintro e w' ⟨rfl, rfl⟩)
            go_ret
            exact ⟨rfl, HB.out⟩
      · have bmx : inB mx 3 17 = false := by unfold inB; simpa using hmx
        rw [show chk ⟨bits, poll, mn, mx, cnt⟩ = 3 by unfold chk; dsimp only; rw [if_pos (by omega)]]
        clear hbits hmn hmx
        go_enter Try.func12, Try.ntmps12
        go_wp2_with (go_at_call 29; refine (C.out _ _ _ _).mono ?_; rintro e w' ⟨rfl, rfl⟩)
        go_ret
        exact ⟨rfl, HB.out⟩
    · have bmn : inB mn 3 17 = false := by unfold inB; simpa using hmn
      rw [show chk ⟨bits, poll, mn, mx, cnt⟩ = 3 by unfold chk; dsimp only; rw [if_pos (by omega)]]
      clear hbits hmn
      go_enter Try.func12, Try.ntmps12
      go_wp2_with (go_at_call 29; refine (C.out _ _ _ _).mono ?_; rintro e w' ⟨rfl, rfl⟩)
      go_ret
      exact ⟨rfl, HB.out⟩
  · have bbits : inB bits 0 255 = false := by unfold inB; simpa using hbits
    rw [show chk ⟨bits, poll, mn, mx, cnt⟩ = 3 by unfold chk; dsimp only; rw [if_pos (by omega)]]
    clear hbits
    go_enter Try.func12, Try.ntmps12
    go_wp2_with (go_at_call 29; refine (C.out _ _ _ _).mono ?_; rintro e w' ⟨rfl, rfl⟩)
    go_ret
    exact ⟨rfl, HB.out⟩
set_option maxHeartbeats 1600000 in
theorem RCheck_any (bits poll mn mx cnt : Int) (w : World) :
    Calls Try.prog 13 #[.agg #[.int .i64 bits, .int .i64 poll, .int .i64 mn, .int .i64 mx, .int .i64 cnt]] w fun e w' => e = .returned (.int .i64 (chk ⟨bits, poll, mn, mx, cnt⟩)) ∧ Below w.heap.size w w' := by
  have hb : Below w.heap.size w (w.alloc (.cells #[.int .i64 bits, .int .i64 poll, .int .i64 mn, .int .i64 mx, .int .i64 cnt] 23)) := (Below.refl _ _).alloc (Nat.le_refl _) _
  have HB := hide hb
  have C := hide Rwithin_any
  clear hb
  by_cases hbits : 0 ≤ bits ∧ bits ≤ 255
  · have bbits : inB bits 0 255 = true := by unfold inB; simpa using hbits
    by_cases hmn : 3 ≤ mn ∧ mn ≤ 17
    · have bmn : inB mn 3 17 = true := by unfold inB; simpa using hmn
      by_cases hmx : 3 ≤ mx ∧ mx ≤ 17
      · have bmx : inB mx 3 17 = true := by unfold inB; simpa using hmx
        by_cases ho : mx < mn
        · rw [show chk ⟨bits, poll, mn, mx, cnt⟩ = 12 by unfold chk; dsimp only; rw [if_neg (by omega), if_pos ho]]
          clear hbits hmn hmx
          go_enter Try.func13, Try.ntmps13
          go_wp2_with (go_at_call 30; refine (C.out _ _ _ _).mono ?_; rintro e w' ⟨rfl, rfl⟩)
          go_ret
          exact ⟨rfl, HB.out⟩
        · by_cases hpoll : mn ≤ poll ∧ poll ≤ mx
          · have bpoll : inB poll mn mx = true := by unfold inB; simpa using hpoll
            by_cases hcnt : -30 ≤ cnt ∧ cnt ≤ 30
            · have bcnt : inB cnt (-30) 30 = true := by unfold inB; simpa using hcnt
              rw [show chk ⟨bits, poll, mn, mx, cnt⟩ = 0 by unfold chk; dsimp only; rw [if_neg (by omega), if_neg ho, if_neg (by omega)]]
              clear hbits hmn hmx hpoll hcnt
              go_enter Try.func13, Try.ntmps13
              go_wp2_with (go_at_call 30; refine (C.out _ _ _ _).mono ?_; rintro e w' ⟨rfl, rfl⟩)
              go_ret
              exact ⟨rfl, HB.out⟩
            · have bcnt : inB cnt (-30) 30 = false := by unfold inB; simpa using hcnt
              rw [show chk ⟨bits, poll, mn, mx, cnt⟩ = 3 by unfold chk; dsimp only; rw [if_neg (by omega), if_neg ho, if_pos (by omega)]]
              clear hbits hmn hmx hpoll hcnt
              go_enter Try.func13, Try.ntmps13
              go_wp2_with (go_at_call 30; refine (C.out _ _ _ _).mono ?_; rintro e w' ⟨rfl, rfl⟩)
              go_ret
              exact ⟨rfl, HB.out⟩
          · have bpoll : inB poll mn mx = false := by unfold inB; simpa using hpoll
            rw [show chk ⟨bits, poll, mn, mx, cnt⟩ = 3 by unfold chk; dsimp only; rw [if_neg (by omega), if_neg ho, if_pos (by omega)]]
            clear hbits hmn hmx hpoll
            go_enter Try.func13, Try.ntmps13
            go_wp2_with (go_at_call 30; refine (C.out _ _ _ _).mono ?_; rintro e w' ⟨rfl, rfl⟩)
            go_ret
            exact ⟨rfl, HB.out⟩
      · have bmx : inB mx 3 17 = false := by unfold inB; simpa using hmx
        rw [show chk ⟨bits, poll, mn, mx, cnt⟩ = 3 by unfold chk; dsimp only; rw [if_pos (by omega)]]
        clear hbits hmn hmx
        go_enter Try.func13, Try.ntmps13
        go_wp2_with (go_at_call 30; refine (C.out _ _ _ _).mono ?_; rintro e w' ⟨rfl, rfl⟩)
        go_ret
        exact ⟨rfl, HB.out⟩
    · have bmn : inB mn 3 17 = false := by unfold inB; simpa using hmn
      rw [show chk ⟨bits, poll, mn, mx, cnt⟩ = 3 by unfold chk; dsimp only; rw [if_pos (by omega)]]
      clear hbits hmn
      go_enter Try.func13, Try.ntmps13
      go_wp2_with (go_at_call 30; refine (C.out _ _ _ _).mono ?_; rintro e w' ⟨rfl, rfl⟩)
      go_ret
      exact ⟨rfl, HB.out⟩
  · have bbits : inB bits 0 255 = false := by unfold inB; simpa using hbits
    rw [show chk ⟨bits, poll, mn, mx, cnt⟩ = 3 by unfold chk; dsimp only; rw [if_pos (by omega)]]
    clear hbits
    go_enter Try.func13, Try.ntmps13
    go_wp2_with (go_at_call 30; refine (C.out _ _ _ _).mono ?_; rintro e w' ⟨rfl, rfl⟩)
    go_ret
    exact ⟨rfl, HB.out⟩
end Go.Proofs.Ytblegmmljegmaaa.Rch
