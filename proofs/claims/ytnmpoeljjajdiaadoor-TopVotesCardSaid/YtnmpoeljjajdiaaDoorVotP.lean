
/- The contracts of layer 54: tables that are extended, in plain mathematics. -/
import Derived.Test.YtnmpoeljjajdiaaDoorVotF
import Derived.Test.YtnmpoeljjajdiaaDoorLeapD
import Derived.Test.YtnmpoeljjajdiaaDoorLeapG
import Derived.Test.YtnmpoeljjajdiaaDoorApp
namespace Go.Proofs.YtnmpoeljjajdiaaDoor.Vot
open Go.RowKit Aid Civ Leap App
noncomputable def extE (B X : Int) (A O : Nat → Int) (n : Nat) (ea ef : Int) : Int :=
  if chkT B X A O n ≠ 0 then chkT B X A O n else if begB ea = false then 7 else if 0 < n ∧ ea ≤ A (n - 1) then 12
  else if ¬ ((ef = 1 ∨ ef = -1) ∧ -1000 ≤ oldO B O n + ef ∧ oldO B O n + ef ≤ 1000) then 3 else if 64 ≤ n then 6 else 0
structure ExtOk (B X : Int) (A O : Nat → Int) (n : Nat) (ea ef : Int) : Prop where
  c : chkT B X A O n = 0
  b : begB ea = true
  i : 0 < n → A (n - 1) < ea
  f : ef = 1 ∨ ef = -1
  o : -1000 ≤ oldO B O n + ef ∧ oldO B O n + ef ≤ 1000
  n : n < 64
theorem extE_ok {B X : Int} {A O : Nat → Int} {n : Nat} {ea ef : Int} (h : extE B X A O n ea ef = 0) : ExtOk B X A O n ea ef := by
  unfold extE at h
  split at h
  · rename_i q
    exact absurd h q
  rename_i h1
  split at h
  · cases h
  rename_i h2
  split at h
  · cases h
  rename_i h3
  split at h
  · cases h
  rename_i h4
  split at h
  · cases h
  rename_i h5
  have h4 := Classical.not_not.1 h4
  exact ⟨Classical.not_not.1 h1, by cases e : begB ea <;> simp_all, fun q => by omega, h4.1, h4.2, by omega⟩
theorem ExtOk.zero {B X : Int} {A O : Nat → Int} {n : Nat} {ea ef : Int} (h : ExtOk B X A O n ea ef) : extE B X A O n ea ef = 0 := by
  unfold extE
  rw [if_neg (fun q => q h.c), if_neg (by rw [h.b]; decide), if_neg (fun q => by have := h.i q.1; omega), if_neg (fun q => q ⟨h.f, h.o⟩), if_neg (by have := h.n; omega)]
theorem firstE_of {e : Nat → Int} {n : Nat} (h : ∀ i, i < n → e i = 0) : firstE e n = 0 := by
  induction n with
  | zero => rfl
  | succ n ih => exact step_pass (ih fun i hi => h i (by omega)) (h n (by omega))
theorem upd_at {α : Type} (f : Nat → α) (k : Nat) (v : α) : upd f k v k = v := by unfold upd; rw [if_pos rfl]
theorem upd_ne {α : Type} (f : Nat → α) {k i : Nat} (v : α) (h : i ≠ k) : upd f k v i = f i := by unfold upd; rw [if_neg h]
theorem oldO_upd {B v : Int} {O : Nat → Int} {n i : Nat} (h : i ≤ n) : oldO B (upd O n v) i = oldO B O i := by
  unfold oldO
  by_cases h0 : i = 0
  · rw [if_pos h0, if_pos h0]
  · rw [if_neg h0, if_neg h0, upd_ne _ _ (by omega)]
theorem beg_bd {a : Int} (h : begB a = true) : -8000000000 ≤ a ∧ a + 1 ≤ 8000000000 := by
  obtain ⟨⟨h1, h2⟩, _, h3⟩ := beg_elim h
  omega
theorem ExtOk.check {B X : Int} {A O : Nat → Int} {n : Nat} {ea ef : Int} (h : ExtOk B X A O n ea ef) : chkT B (max X (ea + 1)) (upd A n ea) (upd O n (oldO B O n + ef)) (n + 1) = 0 := by
  have T := chkT_ok h.c
  have hc := h.c
  have hb := beg_bd h.b
  have hn := h.n
  unfold chkT at hc ⊢
  rw [if_neg (by omega)] at hc
  rw [if_neg (by omega)]
  have hx := T.x
  have hB := T.b
  rw [if_pos ⟨inB_t hB, inB_t hx⟩] at hc
  rw [if_pos ⟨inB_t hB, inB_t (by omega)⟩]
  split at hc
  · rename_i hr
    rw [if_pos]
    · apply firstE_of
      intro i hi
      by_cases e : i = n
      · subst e
        apply ord0
        · rw [upd_at]; exact h.b
        · rw [upd_at]
          rintro ⟨q1, q2⟩
          rw [upd_ne _ _ (by omega)] at q2
          have := h.i q1
          omega
        · rw [upd_at, oldO_upd (Nat.le_refl _)]
          rcases h.f with f | f <;> omega
      · have q := firstE_all hc i (by omega)
        unfold ordE at q ⊢
        rw [upd_ne A _ e, upd_ne O _ e, oldO_upd (by omega), upd_ne A _ (show i - 1 ≠ n by omega)]
        exact q
    · apply firstE_of
      intro i hi
      by_cases e : i = n
      · subst e
        unfold rngE
        rw [upd_at, upd_at, if_pos ⟨inB_t h.o, inB_t (by omega)⟩]
      · have q := firstE_all hr i (by omega)
        unfold rngE at q ⊢
        rw [upd_ne A _ e, upd_ne O _ e]
        exact q
  · cases hc
/-- the entries as cells -/
def flat (A O : Nat → Int) : Nat → List Value
  | 0 => []
  | n + 1 => flat A O n ++ [.int .i64 (A n), .int .i64 (O n)]
theorem flat_len (A O : Nat → Int) (n : Nat) : (flat A O n).length = n * 2 := by
  induction n with
  | zero => rfl
  | succ n ih =>
    have e : flat A O (n + 1) = flat A O n ++ [.int .i64 (A n), .int .i64 (O n)] := rfl
    rw [e, List.length_append, ih]
    simp
    omega
theorem flat_at (A O : Nat → Int) (n : Nat) : ∀ i, i < n → (flat A O n)[i * 2]? = some (.int .i64 (A i)) ∧ (flat A O n)[i * 2 + 1]? = some (.int .i64 (O i)) := by
  induction n with
  | zero => intro i hi; omega
  | succ n ih =>
    intro i hi
    have e : flat A O (n + 1) = flat A O n ++ [.int .i64 (A n), .int .i64 (O n)] := rfl
    rw [e]
    by_cases h : i = n
    · subst h
      have hl := flat_len A O i
      rw [List.getElem?_append_right (by omega), List.getElem?_append_right (by omega), hl]
      constructor
      · rw [show i * 2 - i * 2 = 0 by omega]; rfl
      · rw [show i * 2 + 1 - i * 2 = 1 by omega]; rfl
    · obtain ⟨a, b⟩ := ih i (by omega)
      have hl := flat_len A O n
      rw [List.getElem?_append_left (by omega), List.getElem?_append_left (by omega)]
      exact ⟨a, b⟩
theorem flat_congr {A O A' O' : Nat → Int} {n : Nat} (hA : ∀ i, i < n → A' i = A i) (hO : ∀ i, i < n → O' i = O i) : flat A' O' n = flat A O n := by
  induction n with
  | zero => rfl
  | succ n ih =>
    have e : flat A O (n + 1) = flat A O n ++ [.int .i64 (A n), .int .i64 (O n)] := rfl
    have e' : flat A' O' (n + 1) = flat A' O' n ++ [.int .i64 (A' n), .int .i64 (O' n)] := rfl
    rw [e, e', ih (fun i hi => hA i (by omega)) (fun i hi => hO i (by omega)), hA n (by omega), hO n (by omega)]
theorem flat_upd (A O : Nat → Int) (n : Nat) (a o : Int) : flat A O n ++ [.int .i64 a, .int .i64 o] = flat (upd A n a) (upd O n o) (n + 1) := by
  have e' : flat (upd A n a) (upd O n o) (n + 1) = flat (upd A n a) (upd O n o) n ++ [.int .i64 (upd A n a n), .int .i64 (upd O n o n)] := rfl
  rw [e', upd_at, upd_at, flat_congr (A := A) (O := O) (fun i hi => upd_ne _ _ (by omega)) (fun i hi => upd_ne _ _ (by omega))]
theorem flat_one (A O : Nat → Int) (n : Nat) : ∀ u ∈ flat A O n, u.oneCell' = true := by
  induction n with
  | zero => intro u hu; cases hu
  | succ n ih =>
    intro u hu
    have e : flat A O (n + 1) = flat A O n ++ [.int .i64 (A n), .int .i64 (O n)] := rfl
    rw [e] at hu
    rcases List.mem_append.1 hu with h | h
    · exact ih u h
    · simp at h
      rcases h with rfl | rfl <;> rfl
theorem flat_src {w : World} {a : Option Addr} {n : Nat} {A O : Nat → Int} (h : Ents w a n A O) : Src w 2 a n (flat A O n) :=
  ⟨flat_len A O n, fun h0 => by
    obtain ⟨b, off, rfl, _, hc⟩ := h.at_ h0
    refine ⟨_, rfl, fun j u hu => ?_⟩
    have e : (⟨b, off, none⟩ : Addr).add j = ⟨b, off + j, none⟩ := by unfold Addr.add; split <;> simp_all
    have hj : j < n * 2 := by rw [← flat_len A O n]; exact (List.getElem?_eq_some_iff.1 hu).1
    obtain ⟨c1, c2⟩ := hc (j / 2) (by omega)
    obtain ⟨f1, f2⟩ := flat_at A O n (j / 2) (by omega)
    rw [e]
    rcases (show j % 2 = 0 ∨ j % 2 = 1 by omega) with q | q
    · have ej : j / 2 * 2 = j := by omega
      rw [ej] at c1 f1
      rw [← hu, f1]
      exact c1
    · have ej : j / 2 * 2 + 1 = j := by omega
      rw [ej] at f2
      have ea : off + j / 2 * 2 + 1 = off + j := by omega
      rw [ea] at c2
      rw [← hu, f2]
      exact c2⟩
theorem ents_own {w : World} {base : Nat} {e : TypeId} {v : Value} {n : Nat} {A O : Nat → Int} (h : w.ownsRow base e 2 v n (flat A O n)) (hn : n ≤ 9223372036854775807) : ∃ p c, v = .slice p n c ∧ Ents w p n A O := by
  rcases h.2 with ⟨rfl, rfl⟩ | ⟨g, cap, cur, rfl, hb, hg, hnc, hcm, hsz, htk⟩
  · exact ⟨none, 0, rfl, by omega, fun q => absurd q (by omega)⟩
  · refine ⟨_, cap, rfl, hn, fun h0 => ⟨g, 0, rfl, ?_, fun i hi => ?_⟩⟩
    · rcases Nat.lt_or_ge g w.heap.size with hlt | hge
      · exact hlt
      · rw [Array.getElem?_eq_none hge] at hg; cases hg
    · obtain ⟨f1, f2⟩ := flat_at A O n i hi
      rw [← htk, List.getElem?_take_of_lt (by omega), Array.getElem?_toList] at f1
      rw [← htk, List.getElem?_take_of_lt (by omega), Array.getElem?_toList] at f2
      rw [cell_of_row w g _ cur e (0, 0) hg, cell_of_row w g _ cur e (0, 0) hg, Nat.zero_add]
      exact ⟨f1, f2⟩
end Go.Proofs.YtnmpoeljjajdiaaDoor.Vot
