
/- The contracts of layer 54: a voter's cells; New, Vote. -/
import Derived.Test.YtnmpoeljjajdiaaDoorVotA
namespace Go.Proofs.YtnmpoeljjajdiaaDoor.Vot
open Go.RowKit Aid Civ Leap
structure Vt where
  n : Int
  c : Bool
  L : Int
  P : Nat → Bool
  I : Nat → Int
  T : Nat → Int
def Vt.new (n : Int) : Vt := ⟨n, false, 0, fun _ => false, fun _ => 0, fun _ => 0⟩
def cellP (s : Vt) (i : Nat) : Value :=
  if i = 0 then .int .i64 s.n else if i = 1 then .bool s.c else if i = 2 then .int .i64 s.L
  else if (i - 3) % 3 = 0 then .bool (s.P ((i - 3) / 3)) else if (i - 3) % 3 = 1 then .int .i64 (s.I ((i - 3) / 3)) else .int .i64 (s.T ((i - 3) / 3))
def cellR (s : Vt) (i : Nat) : Value :=
  if i = 0 then .int .i64 s.n else if i < 13 then .int .i64 (s.I (i - 1)) else if i < 25 then .int .i64 (s.T (i - 13)) else if i < 37 then .bool (s.P (i - 25)) else if i = 37 then .int .i64 s.L else .bool s.c
def RowAt (w : World) (g : Nat) (T : TypeId) (f : Nat → Value) : Prop := ∃ cs, w.heap[g]? = some (.cells cs T (0, 0)) ∧ cs.size = 39 ∧ ∀ i, i < 39 → cs[i]? = some (f i)
def PAt (w : World) (g : Nat) (s : Vt) : Prop := RowAt w g 68 (cellP s)
theorem RowAt.cell {w : World} {g : Nat} {T : TypeId} {f : Nat → Value} (h : RowAt w g T f) (i : Nat) (hi : i < 39) : w.cell? ⟨g, i, none⟩ = some (f i) := by
  obtain ⟨cs, hb, _, hc⟩ := h
  rw [cell_of_row w g i cs T (0, 0) hb]
  exact hc i hi
theorem RowAt.free {w : World} {g : Nat} {T : TypeId} {f : Nat → Value} (h : RowAt w g T f) (i : Nat) : w.frozen? ⟨g, i, none⟩ = false := by
  obtain ⟨cs, hb, _, _⟩ := h
  simp [World.frozen?, hb]
theorem RowAt.lt {w : World} {g : Nat} {T : TypeId} {f : Nat → Value} (h : RowAt w g T f) : g < w.heap.size := by
  obtain ⟨cs, hb, _, _⟩ := h
  rcases Nat.lt_or_ge g w.heap.size with hlt | hge
  · exact hlt
  · rw [Array.getElem?_eq_none hge] at hb; cases hb
theorem RowAt.set {w : World} {g : Nat} {T : TypeId} {f : Nat → Value} (h : RowAt w g T f) (i : Nat) (u : Value) (f' : Nat → Value) (he : ∀ j, j < 39 → f' j = if j = i then u else f j) : RowAt (w.setCell ⟨g, i, none⟩ u) g T f' := by
  obtain ⟨cs, hb, hz, hc⟩ := h
  refine ⟨cs.setIfInBounds i u, by simp [World.setCell, Array.getElem?_modify, hb], by simpa using hz, fun j hj => ?_⟩
  rw [Array.getElem?_setIfInBounds, he j hj]
  by_cases hji : j = i
  · subst hji
    simp [hz, hj]
  · rw [if_neg (fun e => hji e.symm), if_neg hji]
    exact hc j hj
theorem RowAt.block {w w' : World} {g : Nat} {T : TypeId} {f : Nat → Value} (h : RowAt w g T f) (hb : w'.heap[g]? = w.heap[g]?) : RowAt w' g T f := by
  obtain ⟨cs, hc, hz, hf⟩ := h
  exact ⟨cs, hb.trans hc, hz, hf⟩
theorem RowAt.below {w w' : World} {B g : Nat} {T : TypeId} {f : Nat → Value} (h : RowAt w g T f) (hb : Below B w w') (hg : g < B) : RowAt w' g T f := h.block (hb.block g hg)
theorem RowAt.step {w w' : World} {g : Nat} {T : TypeId} {f : Nat → Value} (h : RowAt w g T f) (hb : Below w.heap.size w w') : RowAt w' g T f := h.below hb h.lt
theorem RowAt.other {w w' : World} {g g' : Nat} {T : TypeId} {f : Nat → Value} (h : RowAt w g T f) (hb : w.grownBy w' (some g')) (hn : g ≠ g') : RowAt w' g T f := h.block (hb.block g h.lt (fun e => hn (by simpa using e)))
theorem PAt.new (w : World) (n : Int) : PAt (w.alloc (.cells #[.int .i64 n, .bool false, .int .i64 0, .bool false, .int .i64 0, .int .i64 0, .bool false, .int .i64 0, .int .i64 0, .bool false, .int .i64 0, .int .i64 0, .bool false, .int .i64 0, .int .i64 0, .bool false, .int .i64 0, .int .i64 0, .bool false, .int .i64 0, .int .i64 0, .bool false, .int .i64 0, .int .i64 0, .bool false, .int .i64 0, .int .i64 0, .bool false, .int .i64 0, .int .i64 0, .bool false, .int .i64 0, .int .i64 0, .bool false, .int .i64 0, .int .i64 0, .bool false, .int .i64 0, .int .i64 0] 68)) w.heap.size (.new n) := by
  refine ⟨_, heap_alloc_new w _, rfl, fun i hi => ?_⟩
  match i, hi with
  | 0, _ | 1, _ | 2, _ | 3, _ | 4, _ | 5, _ | 6, _ | 7, _ | 8, _ | 9, _ | 10, _ | 11, _ | 12, _ | 13, _ | 14, _ | 15, _ | 16, _ | 17, _ | 18, _ | 19, _ | 20, _ | 21, _ | 22, _ | 23, _ | 24, _ | 25, _ | 26, _ | 27, _ | 28, _ | 29, _ | 30, _ | 31, _ | 32, _ | 33, _ | 34, _ | 35, _ | 36, _ | 37, _ | 38, _ => rfl
  | k + 39, hk => exact absurd hk (by omega)
theorem PNew_ok (n : Int) (w : World) (h1 : 1 ≤ n) (h2 : n ≤ 12) : Calls Tryd.prog 12 #[.int .i64 n] w fun e w' => ∃ g, e = .returned (.pointer (some ⟨g, 0, none⟩)) ∧ w.heap.size ≤ g ∧ PAt w' g (.new n) ∧ Below w.heap.size w w' := by
  go_enter Tryd.func12, Tryd.ntmps12
  go_wp2
  go_ret
  exact ⟨_, rfl, Nat.le_refl _, PAt.new w n, (Below.refl _ _).alloc (Nat.le_refl _) _⟩
theorem PNew_bad (n : Int) (w : World) (h : ¬ (1 ≤ n ∧ n ≤ 12)) : Calls Tryd.prog 12 #[.int .i64 n] w fun e w' => e = .returned (.pointer none) ∧ w = w' := by
  by_cases h1 : n < 1
  · go_enter Tryd.func12, Tryd.ntmps12
    go_wp2
    go_ret
    exact ⟨rfl, by first | rfl | trivial⟩
  · have h2 : 12 < n := by omega
    go_enter Tryd.func12, Tryd.ntmps12
    go_wp2
    go_ret
    exact ⟨rfl, by first | rfl | trivial⟩
def upd {α : Type} (f : Nat → α) (k : Nat) (v : α) (i : Nat) : α := if i = k then v else f i
def Vt.put (s : Vt) (k : Nat) (i u : Int) : Vt := ⟨s.n, true, u, upd s.P k true, upd s.I k i, upd s.T k u⟩
def vErr (s : Vt) (k i u : Int) : Int := if 0 ≤ k ∧ k < s.n ∧ 0 ≤ i ∧ i ≤ 3 ∧ -8000000000 ≤ u ∧ u ≤ 8000000000 then (if s.c = true ∧ u < s.L then 12 else 0) else 3
def Vt.next (s : Vt) (k i u : Int) : Vt := if vErr s k i u = 0 then s.put k.toNat i u else s
structure Inv (s : Vt) : Prop where
  n1 : 1 ≤ s.n
  n2 : s.n ≤ 12
  i : ∀ k, 0 ≤ s.I k ∧ s.I k ≤ 3
  t : ∀ k, -8000000000 ≤ s.T k ∧ s.T k ≤ 8000000000
  p : ∀ k : Nat, s.n ≤ k → s.P k = false
theorem Inv.new {n : Int} (h1 : 1 ≤ n) (h2 : n ≤ 12) : Inv (.new n) := ⟨h1, h2, fun _ => ⟨Int.le_refl _, show (0 : Int) ≤ 3 by decide⟩, fun _ => ⟨show (-8000000000 : Int) ≤ 0 by decide, show (0 : Int) ≤ 8000000000 by decide⟩, fun _ _ => rfl⟩
theorem vErr_ok {s : Vt} {k i u : Int} (h : vErr s k i u = 0) : (0 ≤ k ∧ k < s.n ∧ 0 ≤ i ∧ i ≤ 3 ∧ -8000000000 ≤ u ∧ u ≤ 8000000000) ∧ ¬ (s.c = true ∧ u < s.L) := by
  unfold vErr at h
  split at h
  · split at h
    · cases h
    · exact ⟨by assumption, by assumption⟩
  · cases h
theorem Inv.next {s : Vt} (h : Inv s) (k i u : Int) : Inv (s.next k i u) := by
  unfold Vt.next
  split
  · rename_i e
    obtain ⟨⟨a1, a2, a3, a4, a5, a6⟩, _⟩ := vErr_ok e
    refine ⟨h.n1, h.n2, fun j => ?_, fun j => ?_, fun j hj => ?_⟩
    · show 0 ≤ upd _ _ _ _ ∧ upd _ _ _ _ ≤ 3
      unfold upd
      split
      · exact ⟨a3, a4⟩
      · exact h.i j
    · show -8000000000 ≤ upd _ _ _ _ ∧ upd _ _ _ _ ≤ 8000000000
      unfold upd
      split
      · exact ⟨a5, a6⟩
      · exact h.t j
    · show upd _ _ _ _ = false
      have hj' : s.n ≤ j := hj
      unfold upd
      rw [if_neg (by omega)]
      exact h.p j hj
  · exact h
theorem vErr_range {s : Vt} {k i u : Int} (h : ¬ (0 ≤ k ∧ k < s.n ∧ 0 ≤ i ∧ i ≤ 3 ∧ -8000000000 ≤ u ∧ u ≤ 8000000000)) : vErr s k i u = 3 ∧ s.next k i u = s := by
  have e : vErr s k i u = 3 := by unfold vErr; rw [if_neg h]
  exact ⟨e, by unfold Vt.next; rw [e, if_neg (by decide)]⟩
theorem vErr_order {s : Vt} {k i u : Int} (h : 0 ≤ k ∧ k < s.n ∧ 0 ≤ i ∧ i ≤ 3 ∧ -8000000000 ≤ u ∧ u ≤ 8000000000) (h2 : s.c = true ∧ u < s.L) : vErr s k i u = 12 ∧ s.next k i u = s := by
  have e : vErr s k i u = 12 := by unfold vErr; rw [if_pos h, if_pos h2]
  exact ⟨e, by unfold Vt.next; rw [e, if_neg (by decide)]⟩
theorem vErr_fine {s : Vt} {k i u : Int} (h : 0 ≤ k ∧ k < s.n ∧ 0 ≤ i ∧ i ≤ 3 ∧ -8000000000 ≤ u ∧ u ≤ 8000000000) (h2 : ¬ (s.c = true ∧ u < s.L)) : vErr s k i u = 0 ∧ s.next k i u = s.put k.toNat i u := by
  have e : vErr s k i u = 0 := by unfold vErr; rw [if_pos h, if_neg h2]
  exact ⟨e, by unfold Vt.next; rw [e, if_pos rfl]⟩
def Voted (A : World → Nat → Vt → Prop) (w : World) (g : Nat) (v : Int) (s : Vt) (e : Ending) (w' : World) : Prop := e = .returned (.int .i64 v) ∧ w.grownBy w' (some g) ∧ A w' g s
theorem votes_put {s : Vt} {k : Nat} {i u : Int} (hk : k < 12) : ∀ j, j < 39 → cellP (s.put k i u) j = if j = 3 + k * 3 + 2 then .int .i64 u else if j = 3 + k * 3 + 1 then .int .i64 i else if j = 3 + k * 3 then .bool true else if j = 2 then .int .i64 u else if j = 1 then .bool true else cellP s j := by
  intro j hj
  unfold cellP Vt.put upd
  dsimp only
  by_cases h0 : j = 0
  · subst h0; rw [if_pos rfl, if_neg (by omega), if_neg (by omega), if_neg (by omega), if_neg (by omega), if_neg (by omega), if_pos rfl]
  by_cases h1 : j = 1
  · subst h1; rw [if_neg (by omega), if_pos rfl, if_neg (by omega), if_neg (by omega), if_neg (by omega), if_neg (by omega), if_pos rfl]
  by_cases h2 : j = 2
  · subst h2; rw [if_neg (by omega), if_neg (by omega), if_pos rfl, if_neg (by omega), if_neg (by omega), if_neg (by omega), if_pos rfl]
  rw [if_neg h0, if_neg h1, if_neg h2, if_neg h2, if_neg h1, if_neg h0, if_neg h1, if_neg h2]
  have q2 (e : ¬ (j - 3) % 3 = 2 ∨ ¬ (j - 3) / 3 = k) : ¬ j = 3 + k * 3 + 2 := by omega
  have q1 (e : ¬ (j - 3) % 3 = 1 ∨ ¬ (j - 3) / 3 = k) : ¬ j = 3 + k * 3 + 1 := by omega
  have q0 (e : ¬ (j - 3) % 3 = 0 ∨ ¬ (j - 3) / 3 = k) : ¬ j = 3 + k * 3 := by omega
  by_cases r0 : (j - 3) % 3 = 0
  · rw [if_pos r0, if_pos r0, if_neg (q2 (.inl (by omega))), if_neg (q1 (.inl (by omega)))]
    by_cases e : (j - 3) / 3 = k
    · rw [if_pos e, if_pos (show j = 3 + k * 3 by omega)]
    · rw [if_neg e, if_neg (q0 (.inr e))]
  · rw [if_neg r0, if_neg r0]
    by_cases r1 : (j - 3) % 3 = 1
    · rw [if_pos r1, if_pos r1, if_neg (q2 (.inl (by omega)))]
      by_cases e : (j - 3) / 3 = k
      · rw [if_pos e, if_pos (show j = 3 + k * 3 + 1 by omega)]
      · rw [if_neg e, if_neg (q1 (.inr e)), if_neg (q0 (.inr e))]
    · rw [if_neg r1, if_neg r1]
      by_cases e : (j - 3) / 3 = k
      · rw [if_pos e, if_pos (show j = 3 + k * 3 + 2 by omega)]
      · rw [if_neg e, if_neg (q2 (.inr e)), if_neg (q1 (.inr e)), if_neg (q0 (.inr e))]
theorem votes_putR {s : Vt} {k : Nat} {i u : Int} (hk : k < 12) : ∀ j, j < 39 → cellR (s.put k i u) j = if j = 38 then .bool true else if j = 37 then .int .i64 u else if j = 25 + k then .bool true else if j = 13 + k then .int .i64 u else if j = 1 + k then .int .i64 i else cellR s j := by
  intro j hj
  unfold cellR Vt.put upd
  dsimp only
  by_cases h0 : j = 0
  · subst h0; rw [if_pos rfl, if_neg (by omega), if_neg (by omega), if_neg (by omega), if_neg (by omega), if_neg (by omega), if_pos rfl]
  rw [if_neg h0, if_neg h0]
  by_cases h1 : j < 13
  · rw [if_pos h1, if_pos h1, if_neg (show ¬ j = 38 by omega), if_neg (show ¬ j = 37 by omega), if_neg (show ¬ j = 25 + k by omega), if_neg (show ¬ j = 13 + k by omega)]
    by_cases e : j - 1 = k
    · rw [if_pos e, if_pos (by omega)]
    · rw [if_neg e, if_neg (by omega)]
  rw [if_neg h1, if_neg h1]
  by_cases h2 : j < 25
  · rw [if_pos h2, if_pos h2, if_neg (show ¬ j = 38 by omega), if_neg (show ¬ j = 37 by omega), if_neg (show ¬ j = 25 + k by omega)]
    by_cases e : j - 13 = k
    · rw [if_pos e, if_pos (by omega)]
    · rw [if_neg e, if_neg (by omega), if_neg (by omega)]
  rw [if_neg h2, if_neg h2]
  by_cases h3 : j < 37
  · rw [if_pos h3, if_pos h3, if_neg (show ¬ j = 38 by omega), if_neg (show ¬ j = 37 by omega)]
    by_cases e : j - 25 = k
    · rw [if_pos e, if_pos (by omega)]
    · rw [if_neg e, if_neg (by omega), if_neg (by omega), if_neg (by omega)]
  rw [if_neg h3, if_neg h3]
  by_cases h4 : j = 37
  · rw [if_pos h4, if_neg (show ¬ j = 38 by omega), if_pos h4]
  · rw [if_neg h4, if_pos (show j = 38 by omega)]
end Go.Proofs.YtnmpoeljjajdiaaDoor.Vot
