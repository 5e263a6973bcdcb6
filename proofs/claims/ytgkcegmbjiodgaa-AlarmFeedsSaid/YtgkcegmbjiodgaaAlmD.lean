
/- The contracts of package alarm: Feed whole, Raised, Since, Counts; and of a nil alarm. -/
import Derived.Test.YtgkcegmbjiodgaaAlmC
namespace Go.Proofs.Ytgkcegmbjiodgaa.AlmW
open Go.RowKit Alm Aid
theorem Feed_any (g : Nat) (c : Conf) (s : St) (k : Nat) (at_ v : Int) (w : World) (h : AlmAt w g c s) (hs : Sz s k) (hk : k ≤ 1000) :
    Calls Try.prog 15 #[.pointer (some ⟨g, 0, none⟩), .int .i64 at_, .int .i64 v] w (Fed w g c (feedS c s at_ v) (feedN c s at_ v) (err s at_)) := by
  by_cases he : err s at_ = 0
  · have e1 : feedS c s at_ v = next c s at_ v := by unfold feedS; rw [if_pos he]
    have e2 : feedN c s at_ v = kind c s at_ v := by unfold feedN; rw [if_pos he]
    rw [e1, e2, he]
    have hi : 0 ≤ at_ ∧ at_ ≤ 1125899906842624 ∧ s.last ≤ at_ := by
      unfold err at he
      split at he
      · omega
      · split at he <;> omega
    obtain ⟨i1, i2, i3⟩ := hi
    clear e1 e2 he
    obtain ⟨last, high, low, raised, since, noti, raises, clears, repeats⟩ := s
    cases raised
    · by_cases hh : c.hold ≤ ext high (decide (c.hi < v))
      · have ek : kind c ⟨last, high, low, false, since, noti, raises, clears, repeats⟩ at_ v = 1 := by
          unfold kind; rw [if_pos ⟨rfl, hh⟩]
        have en : next c ⟨last, high, low, false, since, noti, raises, clears, repeats⟩ at_ v = ⟨at_, 0, 0, true, at_, at_, raises + 1, clears, repeats⟩ := by
          unfold next; rw [if_pos ek]
        rw [ek, en]
        exact Feed_raise g c last high low since noti raises clears repeats k at_ v w h hs hk i1 i2 i3 hh
      · have ek : kind c ⟨last, high, low, false, since, noti, raises, clears, repeats⟩ at_ v = 0 := by
          unfold kind; rw [if_neg (fun h => hh h.2), if_neg (fun h => by cases h.1), if_neg (fun h => by cases h.1)]
        have en : next c ⟨last, high, low, false, since, noti, raises, clears, repeats⟩ at_ v = ⟨at_, ext high (decide (c.hi < v)), ext low (decide (v < c.lo)), false, since, noti, raises, clears, repeats⟩ := by
          unfold next; rw [if_neg (by omega), if_neg (by omega), if_neg (by omega)]; rfl
        rw [ek, en]
        exact Feed_none1 g c last high low since noti raises clears repeats k at_ v w h hs hk i1 i2 i3 (by omega)
    · by_cases hh : c.clr ≤ ext low (decide (v < c.lo))
      · have ek : kind c ⟨last, high, low, true, since, noti, raises, clears, repeats⟩ at_ v = 2 := by
          unfold kind; rw [if_neg (fun h => by cases h.1), if_pos ⟨rfl, hh⟩]
        have en : next c ⟨last, high, low, true, since, noti, raises, clears, repeats⟩ at_ v = ⟨at_, 0, 0, false, 0, at_, raises, clears + 1, repeats⟩ := by
          unfold next; rw [if_neg (by omega), if_pos ek]
        rw [ek, en]
        exact Feed_clear g c last high low since noti raises clears repeats k at_ v w h hs hk i1 i2 i3 hh
      · by_cases hv : c.hi < v
        · by_cases hq : c.sil ≤ at_ - noti
          · have ek : kind c ⟨last, high, low, true, since, noti, raises, clears, repeats⟩ at_ v = 3 := by
              unfold kind; rw [if_neg (fun h => by cases h.1), if_neg (fun h => hh h.2), if_pos ⟨rfl, hv, hq⟩]
            have en : next c ⟨last, high, low, true, since, noti, raises, clears, repeats⟩ at_ v = ⟨at_, ext high (decide (c.hi < v)), ext low (decide (v < c.lo)), true, since, at_, raises, clears, repeats + 1⟩ := by
              unfold next; rw [if_neg (by omega), if_neg (by omega), if_pos ek]; rfl
            rw [ek, en]
            exact Feed_repeat g c last high low since noti raises clears repeats k at_ v w h hs hk i1 i2 i3 (by omega) hv hq
          · have ek : kind c ⟨last, high, low, true, since, noti, raises, clears, repeats⟩ at_ v = 0 := by
              unfold kind; rw [if_neg (fun h => by cases h.1), if_neg (fun h => hh h.2), if_neg (fun h => hq h.2.2)]
            have en : next c ⟨last, high, low, true, since, noti, raises, clears, repeats⟩ at_ v = ⟨at_, ext high (decide (c.hi < v)), ext low (decide (v < c.lo)), true, since, noti, raises, clears, repeats⟩ := by
              unfold next; rw [if_neg (by omega), if_neg (by omega), if_neg (by omega)]; rfl
            rw [ek, en]
            exact Feed_none3 g c last high low since noti raises clears repeats k at_ v w h hs hk i1 i2 i3 (by omega) hv (by omega)
        · have ek : kind c ⟨last, high, low, true, since, noti, raises, clears, repeats⟩ at_ v = 0 := by
            unfold kind; rw [if_neg (fun h => by cases h.1), if_neg (fun h => hh h.2), if_neg (fun h => hv h.2.1)]
          have en : next c ⟨last, high, low, true, since, noti, raises, clears, repeats⟩ at_ v = ⟨at_, ext high (decide (c.hi < v)), ext low (decide (v < c.lo)), true, since, noti, raises, clears, repeats⟩ := by
            unfold next; rw [if_neg (by omega), if_neg (by omega), if_neg (by omega)]; rfl
          rw [ek, en]
          exact Feed_none2 g c last high low since noti raises clears repeats k at_ v w h hs hk i1 i2 i3 (by omega) hv
  · have e1 : feedS c s at_ v = s := by unfold feedS; rw [if_neg he]
    have e2 : feedN c s at_ v = 0 := by unfold feedN; rw [if_neg he]
    rw [e1, e2]
    exact Feed_err g c s at_ v w h he

theorem Raised_any (g : Nat) (c : Conf) (s : St) (w : World) (h : AlmAt w g c s) :
    Calls Try.prog 19 #[.pointer (some ⟨g, 0, none⟩)] w fun e w' => e = .returned (.bool s.raised) ∧ w = w' := by
  obtain ⟨_, _, _, _, _, _, _, _, c8, _, _, _, _, _⟩ := h.cells
  clear h
  go_enter Try.func19, Try.ntmps19
  go_wp2
  go_ret
  exact ⟨rfl, rfl⟩
theorem Raised_nil (w : World) : Calls Try.prog 19 #[.pointer none] w fun e w' => e = .returned (.bool false) ∧ w = w' := by
  go_enter Try.func19, Try.ntmps19
  go_wp2
  go_ret
  exact ⟨rfl, rfl⟩
theorem Since_any (g : Nat) (c : Conf) (s : St) (w : World) (h : AlmAt w g c s) :
    Calls Try.prog 17 #[.pointer (some ⟨g, 0, none⟩)] w fun e w' => e = .returned (.tuple #[.int .i64 (if s.raised = true then s.since else 0), .bool s.raised]) ∧ w = w' := by
  obtain ⟨_, _, _, _, _, _, _, _, c8, c9, _, _, _, _⟩ := h.cells
  clear h
  generalize s.raised = r at *
  cases r
  all_goals
    go_enter Try.func17, Try.ntmps17
    go_wp2
    go_ret2
    exact ⟨rfl, rfl⟩
theorem Since_nil (w : World) : Calls Try.prog 17 #[.pointer none] w fun e w' => e = .returned (.tuple #[.int .i64 0, .bool false]) ∧ w = w' := by
  go_enter Try.func17, Try.ntmps17
  go_wp2
  go_ret2
  exact ⟨rfl, rfl⟩
theorem Counts_any (g : Nat) (c : Conf) (s : St) (w : World) (h : AlmAt w g c s) :
    Calls Try.prog 21 #[.pointer (some ⟨g, 0, none⟩)] w fun e w' => e = .returned (.tuple #[.int .i64 s.raises, .int .i64 s.clears, .int .i64 s.repeats]) ∧ ∃ n, w' = w.drewN n := by
  obtain ⟨_, _, _, _, _, _, _, _, _, _, _, c11, c12, c13⟩ := h.cells
  clear h
  go_enter Try.func21, Try.ntmps21
  go_wp2
  go_quiet (fail)
  go_wp2
  go_ret3
  exact ⟨rfl, _, rfl⟩
theorem Counts_nil (w : World) : Calls Try.prog 21 #[.pointer none] w fun e w' => e = .returned (.tuple #[.int .i64 0, .int .i64 0, .int .i64 0]) ∧ w = w' := by
  go_enter Try.func21, Try.ntmps21
  go_wp2
  go_ret3
  exact ⟨rfl, rfl⟩
set_option maxRecDepth 100000 in
theorem Feed_nil (at_ v : Int) (w : World) : Calls Try.prog 15 #[.pointer none, .int .i64 at_, .int .i64 v] w fun e w' => e = .returned (.tuple #[.int .i64 0, .int .i64 1]) ∧ w = w' := by
  go_enter Try.func15, Try.ntmps15
  go_wp2
  go_ret2
  exact ⟨rfl, rfl⟩
end Go.Proofs.Ytgkcegmbjiodgaa.AlmW
