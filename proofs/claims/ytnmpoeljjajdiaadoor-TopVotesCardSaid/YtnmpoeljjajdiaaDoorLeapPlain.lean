
/- Plain law of layer 6 (leap tables): when a table is valid, and the slices of entries in memory. -/
import Derived.Test.YtnmpoeljjajdiaaDoorCivF
namespace Go.Proofs.YtnmpoeljjajdiaaDoor.Leap
open Go.RowKit Aid Civ
noncomputable def begB (sec : Int) : Bool := inB sec (-8000000000) 8000000000 && (dateOf (sec / 86400)).2.2 == 1 && sec % 86400 / 3600 == 0 && sec % 86400 / 60 % 60 == 0 && sec % 86400 % 60 == 0
def firstE (e : Nat → Int) : Nat → Int
  | 0 => 0
  | k + 1 => if firstE e k = 0 then e k else firstE e k
theorem firstE_hit {e : Nat → Int} {k : Nat} (h : firstE e k = 0) : ∀ {n : Nat}, k < n → e k ≠ 0 → firstE e n = e k := by
  intro n hk he
  induction n with
  | zero => omega
  | succ n ih =>
    rcases Nat.lt_or_ge k n with h1 | h1
    · have := ih h1
      unfold firstE
      rw [if_neg (by rw [this]; exact he), this]
    · obtain rfl : k = n := by omega
      unfold firstE
      rw [if_pos h]
theorem step_pass {e : Nat → Int} {k : Nat} (h : firstE e k = 0) (he : e k = 0) : firstE e (k + 1) = 0 := by unfold firstE; rw [if_pos h]; exact he
theorem firstE_all {e : Nat → Int} {n : Nat} (h : firstE e n = 0) : ∀ i, i < n → e i = 0 := by
  induction n with
  | zero => intro i hi; omega
  | succ n ih =>
    intro i hi
    unfold firstE at h
    split at h
    · rename_i h2
      rcases Nat.lt_or_ge i n with h1 | h1
      · exact ih h2 i h1
      · obtain rfl : i = n := by omega
        exact h
    · rename_i h2; exact absurd h h2
def oldO (B : Int) (O : Nat → Int) (i : Nat) : Int := if i = 0 then B else O (i - 1)
def rngE (A O : Nat → Int) (i : Nat) : Int := if inB (O i) (-1000) 1000 = true ∧ inB (A i) (-8000000000) 8000000000 = true then 0 else 3
noncomputable def ordE (B : Int) (A O : Nat → Int) (i : Nat) : Int :=
  if begB (A i) = false then 7 else if 0 < i ∧ A i ≤ A (i - 1) then 12 else if O i = oldO B O i + 1 ∨ O i = oldO B O i - 1 then 0 else 3
noncomputable def chkT (B X : Int) (A O : Nat → Int) (n : Nat) : Int :=
  if 64 < n then 6 else if inB B (-1000) 1000 = true ∧ inB X (-8000000000) 8000000000 = true then (if firstE (rngE A O) n = 0 then firstE (ordE B A O) n else 3) else 3
theorem inB_iff {a lo hi : Int} : inB a lo hi = true ↔ lo ≤ a ∧ a ≤ hi := by unfold inB; simp
structure Tab (B X : Int) (A O : Nat → Int) (n : Nat) : Prop where
  n64 : n ≤ 64
  b : -1000 ≤ B ∧ B ≤ 1000
  x : -8000000000 ≤ X ∧ X ≤ 8000000000
  o : ∀ i, i < n → -1000 ≤ O i ∧ O i ≤ 1000
  a : ∀ i, i < n → -8000000000 ≤ A i ∧ A i ≤ 8000000000
  beg : ∀ i, i < n → begB (A i) = true
  inc : ∀ i, i + 1 < n → A i < A (i + 1)
  one : ∀ i, i < n → O i = oldO B O i + 1 ∨ O i = oldO B O i - 1
theorem rngE_ok {A O : Nat → Int} {i : Nat} (h : rngE A O i = 0) : (-1000 ≤ O i ∧ O i ≤ 1000) ∧ (-8000000000 ≤ A i ∧ A i ≤ 8000000000) := by
  unfold rngE at h
  split at h
  · rename_i k; exact ⟨inB_iff.1 k.1, inB_iff.1 k.2⟩
  · omega
theorem chkT_ok {B X : Int} {A O : Nat → Int} {n : Nat} (h : chkT B X A O n = 0) : Tab B X A O n := by
  unfold chkT at h
  split at h
  · omega
  · split at h
    · split at h
      · rename_i h1 h2 h3
        have h4 := firstE_all h3
        have h5 := firstE_all h
        have h6 : ∀ i, i < n → begB (A i) = true ∧ ¬ (0 < i ∧ A i ≤ A (i - 1)) ∧ (O i = oldO B O i + 1 ∨ O i = oldO B O i - 1) := by
          intro i hi
          have := h5 i hi
          unfold ordE at this
          split at this
          · omega
          · split at this
            · omega
            · split at this
              · rename_i a b c; exact ⟨by simpa using a, b, c⟩
              · omega
        exact ⟨by omega, inB_iff.1 h2.1, inB_iff.1 h2.2, fun i hi => (rngE_ok (h4 i hi)).1, fun i hi => (rngE_ok (h4 i hi)).2, fun i hi => (h6 i hi).1, fun i hi => by
          have := (h6 (i + 1) hi).2.1
          rw [Nat.add_sub_cancel] at this
          omega, fun i hi => (h6 i hi).2.2⟩
      · omega
    · omega
/-- a slice of entries that reads as A, O -/
def Ents (w : World) (a : Option Addr) (n : Nat) (A O : Nat → Int) : Prop :=
  n ≤ 9223372036854775807 ∧ (0 < n → ∃ b off, a = some ⟨b, off, none⟩ ∧ b < w.heap.size ∧ ∀ i, i < n → w.cell? ⟨b, off + i * 2, none⟩ = some (.int .i64 (A i)) ∧ w.cell? ⟨b, off + i * 2 + 1, none⟩ = some (.int .i64 (O i)))
theorem Ents.below {w w' : World} {a : Option Addr} {n : Nat} {A O : Nat → Int} (h : Ents w a n A O) (hb : Below w.heap.size w w') : Ents w' a n A O :=
  ⟨h.1, fun h0 => by
    obtain ⟨b, off, e, hlt, hc⟩ := h.2 h0
    exact ⟨b, off, e, Nat.lt_of_lt_of_le hlt hb.size, fun i hi => ⟨(hb.cell (p := ⟨b, _, none⟩) hlt).trans (hc i hi).1, (hb.cell (p := ⟨b, _, none⟩) hlt).trans (hc i hi).2⟩⟩⟩
theorem Ents.at_ {w : World} {a : Option Addr} {n : Nat} {A O : Nat → Int} (h : Ents w a n A O) (h0 : 0 < n) : ∃ b off, a = some ⟨b, off, none⟩ ∧ b < w.heap.size ∧ ∀ i, i < n → w.cell? ⟨b, off + i * 2, none⟩ = some (.int .i64 (A i)) ∧ w.cell? ⟨b, off + i * 2 + 1, none⟩ = some (.int .i64 (O i)) := h.2 h0
theorem cells3 {w : World} {x0 x1 x2 : Value} {T : TypeId} {W : World} (h : Below (w.heap.size + 1) (w.alloc (.cells #[x0, x1, x2] T)) W) :
    W.cell? ⟨w.heap.size, 0, none⟩ = some x0 ∧ W.cell? ⟨w.heap.size, 1, none⟩ = some x1 ∧ W.cell? ⟨w.heap.size, 2, none⟩ = some x2 ∧ w.heap.size < W.heap.size := by
  have c : ∀ o, W.cell? ⟨w.heap.size, o, none⟩ = (w.alloc (.cells #[x0, x1, x2] T)).cell? ⟨w.heap.size, o, none⟩ := fun o => h.cell (p := ⟨w.heap.size, o, none⟩) (by simp)
  refine ⟨(c 0).trans (by simp [go_sem]), (c 1).trans (by simp [go_sem]), (c 2).trans (by simp [go_sem]), ?_⟩
  have := h.size; simp at this; omega
theorem cells2 {w : World} {x0 x1 : Value} {T : TypeId} {W : World} (h : Below (w.heap.size + 1) (w.alloc (.cells #[x0, x1] T)) W) :
    W.cell? ⟨w.heap.size, 0, none⟩ = some x0 ∧ W.cell? ⟨w.heap.size, 1, none⟩ = some x1 ∧ w.heap.size < W.heap.size := by
  have c : ∀ o, W.cell? ⟨w.heap.size, o, none⟩ = (w.alloc (.cells #[x0, x1] T)).cell? ⟨w.heap.size, o, none⟩ := fun o => h.cell (p := ⟨w.heap.size, o, none⟩) (by simp)
  refine ⟨(c 0).trans (by simp [go_sem]), (c 1).trans (by simp [go_sem]), ?_⟩
  have := h.size; simp at this; omega
theorem boxB {w : World} {o : Obj} {W : World} (h : Below (w.heap.size + 1) (w.alloc o) W) : Below w.heap.size w W := ((Below.refl _ _).alloc (Nat.le_refl _) _).trans (h.mono (by omega))
end Go.Proofs.YtnmpoeljjajdiaaDoor.Leap
