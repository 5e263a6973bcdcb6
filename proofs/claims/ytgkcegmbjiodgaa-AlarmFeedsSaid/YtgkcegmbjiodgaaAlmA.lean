
/- The contracts of package alarm: Feed, Raised, Since, Counts. -/
import Derived.Test.YtgkcegmbjiodgaaAid
import Derived.Test.YtgkcegmbjiodgaaAlmPlain
import Derived.Deep.RegionHeld3
import Derived.StillTailTactics
namespace Go.Proofs.Ytgkcegmbjiodgaa.AlmW
open Go.RowKit Alm Aid
def cellsOf (c : Conf) (s : St) : Array Value :=
  #[.int .i64 c.hi, .int .i64 c.lo, .int .i64 c.hold, .int .i64 c.clr, .int .i64 c.sil, .int .i64 s.last, .int .i64 s.high, .int .i64 s.low, .bool s.raised, .int .i64 s.since, .int .i64 s.noti, .int .i64 s.raises, .int .i64 s.clears, .int .i64 s.repeats]
def AlmAt (w : World) (g : Nat) (c : Conf) (s : St) : Prop := w.heap[g]? = some (.cells (cellsOf c s) 46 (0, 0))
theorem extend_any (run : Int) (b : Bool) (w : World) (h : 0 ≤ run) (h2 : run ≤ 1000000) :
    Calls Try.prog 24 #[.int .i64 run, .bool b] w fun e w' => e = .returned (.int .i64 (ext run b)) ∧ w = w' := by
  cases b
  all_goals
    go_enter Try.func24, Try.ntmps24
    go_wp2
    go_ret
    exact ⟨rfl, rfl⟩
theorem set_block {w : World} {g : Nat} {t : TypeId} {cs : Array Value} (h : w.heap[g]? = some (.cells cs t (0, 0))) (i : Nat) (u : Value) : (w.setCell ⟨g, i, none⟩ u).heap[g]? = some (.cells (cs.setIfInBounds i u) t (0, 0)) := by
  simp [World.setCell, Array.getElem?_modify, h]
theorem AlmAt.cells {w : World} {g : Nat} {c : Conf} {s : St} (h : AlmAt w g c s) :
    w.cell? ⟨g, 0, none⟩ = some (.int .i64 c.hi) ∧ w.cell? ⟨g, 1, none⟩ = some (.int .i64 c.lo) ∧ w.cell? ⟨g, 2, none⟩ = some (.int .i64 c.hold) ∧ w.cell? ⟨g, 3, none⟩ = some (.int .i64 c.clr) ∧ w.cell? ⟨g, 4, none⟩ = some (.int .i64 c.sil) ∧
    w.cell? ⟨g, 5, none⟩ = some (.int .i64 s.last) ∧ w.cell? ⟨g, 6, none⟩ = some (.int .i64 s.high) ∧ w.cell? ⟨g, 7, none⟩ = some (.int .i64 s.low) ∧ w.cell? ⟨g, 8, none⟩ = some (.bool s.raised) ∧ w.cell? ⟨g, 9, none⟩ = some (.int .i64 s.since) ∧
    w.cell? ⟨g, 10, none⟩ = some (.int .i64 s.noti) ∧ w.cell? ⟨g, 11, none⟩ = some (.int .i64 s.raises) ∧ w.cell? ⟨g, 12, none⟩ = some (.int .i64 s.clears) ∧ w.cell? ⟨g, 13, none⟩ = some (.int .i64 s.repeats) := by
  have f : ∀ i, w.cell? ⟨g, i, none⟩ = (cellsOf c s)[i]? := fun i => cell_of_row w g i _ _ _ h
  refine ⟨f 0, f 1, f 2, f 3, f 4, f 5, f 6, f 7, f 8, f 9, f 10, f 11, f 12, f 13⟩
theorem AlmAt.free {w : World} {g : Nat} {c : Conf} {s : St} (h : AlmAt w g c s) (i : Nat) : w.frozen? ⟨g, i, none⟩ = false := by
  unfold AlmAt at h
  simp [World.frozen?, h]
theorem AlmAt.lt {w : World} {g : Nat} {c : Conf} {s : St} (h : AlmAt w g c s) : g < w.heap.size := by
  unfold AlmAt at h
  rcases Nat.lt_or_ge g w.heap.size with hlt | hge
  · exact hlt
  · rw [Array.getElem?_eq_none hge] at h; cases h
def Fed (w : World) (g : Nat) (c : Conf) (s : St) (n e : Int) (E : Ending) (w' : World) : Prop := E = .returned (.tuple #[.int .i64 n, .int .i64 e]) ∧ w.grownBy w' (some g) ∧ AlmAt w' g c s
set_option maxRecDepth 100000 in
set_option maxHeartbeats 1600000 in
theorem Feed_err (g : Nat) (c : Conf) (s : St) (at_ v : Int) (w : World) (h : AlmAt w g c s) (he : err s at_ ≠ 0) :
    Calls Try.prog 15 #[.pointer (some ⟨g, 0, none⟩), .int .i64 at_, .int .i64 v] w (Fed w g c s 0 (err s at_)) := by
  obtain ⟨_, _, _, _, _, c5, _, _, _, _, _, _, _, _⟩ := h.cells
  have H := hide h
  clear h
  by_cases h1 : at_ < 0
  · have e : err s at_ = 3 := by unfold err; rw [if_pos (.inl h1)]
    rw [e]
    clear e he
    go_enter Try.func15, Try.ntmps15
    go_wp2
    go_ret2
    exact ⟨rfl, World.grownBy.refl _ _, H.out⟩
  by_cases h2 : 1125899906842624 < at_
  · have e : err s at_ = 3 := by unfold err; rw [if_pos (.inr h2)]
    rw [e]
    clear e he
    go_enter Try.func15, Try.ntmps15
    go_wp2
    go_ret2
    exact ⟨rfl, World.grownBy.refl _ _, H.out⟩
  · have h3 : at_ < s.last := by
      unfold err at he
      rw [if_neg (by omega)] at he
      split at he
      · assumption
      · omega
    have e : err s at_ = 12 := by unfold err; rw [if_neg (by omega), if_pos h3]
    rw [e]
    clear e he
    go_enter Try.func15, Try.ntmps15
    go_wp2
    go_ret2
    exact ⟨rfl, World.grownBy.refl _ _, H.out⟩
theorem AlmAt.set {w : World} {g : Nat} {c : Conf} {s s' : St} (h : AlmAt w g c s) (i : Nat) (u : Value) (he : (cellsOf c s).setIfInBounds i u = cellsOf c s') : AlmAt (w.setCell ⟨g, i, none⟩ u) g c s' := by
  have := set_block h i u
  rw [he] at this
  exact this
end Go.Proofs.Ytgkcegmbjiodgaa.AlmW
