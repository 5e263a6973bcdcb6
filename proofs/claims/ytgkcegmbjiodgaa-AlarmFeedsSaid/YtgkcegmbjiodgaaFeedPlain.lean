
/- Plain laws of layer 49 (alarms): the runs of a list of samples; the entries of a list as cells. -/
import Derived.Test.YtgkcegmbjiodgaaAlmPlain
import Derived.Test.YtgkcegmbjiodgaaApp
namespace Go.Proofs.Ytgkcegmbjiodgaa.Alm
open Go.RowKit Aid App
def upd {α : Type} (f : Nat → α) (k : Nat) (v : α) (i : Nat) : α := if i = k then v else f i
theorem upd_at {α : Type} (f : Nat → α) (k : Nat) (v : α) : upd f k v k = v := by unfold upd; rw [if_pos rfl]
theorem upd_ne {α : Type} (f : Nat → α) {k i : Nat} (v : α) (h : i ≠ k) : upd f k v i = f i := by unfold upd; rw [if_neg h]
/-- how many of the last samples have the property -/
def rn (p : Int → Bool) (V : Nat → Int) : Nat → Nat
  | 0 => 0
  | m + 1 => if p (V m) = true then rn p V m + 1 else 0
theorem rn_le (p : Int → Bool) (V : Nat → Int) (m : Nat) : rn p V m ≤ m := by
  induction m with
  | zero => exact Nat.le_refl _
  | succ m ih =>
    have e : rn p V (m + 1) = if p (V m) = true then rn p V m + 1 else 0 := rfl
    rw [e]; split <;> omega
theorem rn_all {p : Int → Bool} {V : Nat → Int} : ∀ {m j : Nat}, j < rn p V m → p (V (m - 1 - j)) = true := by
  intro m
  induction m with
  | zero => intro j h; exact absurd h (Nat.not_lt_zero _)
  | succ m ih =>
    intro j h
    have e : rn p V (m + 1) = if p (V m) = true then rn p V m + 1 else 0 := rfl
    rw [e] at h
    split at h
    · rename_i q
      rcases j with _ | j
      · simpa using q
      · have := ih (j := j) (by omega)
        rw [show m + 1 - 1 - (j + 1) = m - 1 - j by omega]
        exact this
    · exact absurd h (Nat.not_lt_zero _)
theorem rn_end {p : Int → Bool} {V : Nat → Int} : ∀ {m : Nat}, rn p V m < m → p (V (m - 1 - rn p V m)) = false := by
  intro m
  induction m with
  | zero => intro h; exact absurd h (Nat.not_lt_zero _)
  | succ m ih =>
    intro h
    have e : rn p V (m + 1) = if p (V m) = true then rn p V m + 1 else 0 := rfl
    rw [e] at h ⊢
    by_cases q : p (V m) = true
    · rw [if_pos q] at h ⊢
      rw [show m + 1 - 1 - (rn p V m + 1) = m - 1 - rn p V m by omega]
      exact ih (by omega)
    · rw [if_neg q]
      simpa using q
theorem rn_congr {p : Int → Bool} {V V' : Nat → Int} {m : Nat} (h : ∀ i, i < m → V' i = V i) : rn p V' m = rn p V m := by
  induction m with
  | zero => rfl
  | succ m ih =>
    have e : rn p V (m + 1) = if p (V m) = true then rn p V m + 1 else 0 := rfl
    have e' : rn p V' (m + 1) = if p (V' m) = true then rn p V' m + 1 else 0 := rfl
    rw [e, e', h m (by omega), ih (fun i hi => h i (by omega))]
theorem rn_upd (p : Int → Bool) (V : Nat → Int) (m : Nat) (v : Int) : (rn p (upd V m v) (m + 1) : Int) = ext (rn p V m) (p v) := by
  have e : rn p (upd V m v) (m + 1) = if p (upd V m v m) = true then rn p (upd V m v) m + 1 else 0 := rfl
  rw [e, upd_at, rn_congr (V := V) fun i hi => upd_ne _ _ (by omega)]
  unfold ext
  split <;> simp
/-- the samples as cells -/
def flat (A O : Nat → Int) : Nat → List Value
  | 0 => []
  | n + 1 => flat A O n ++ [.int .i64 (A n), .int .i64 (O n)]
theorem flat_len (A O : Nat → Int) (n : Nat) : (flat A O n).length = n * 2 := by
  induction n with
  | zero => rfl
  | succ n ih =>
    have e : flat A O (n + 1) = flat A O n ++ [.int .i64 (A n), .int .i64 (O n)] := rfl
    rw [e, List.length_append, ih]
    simp
    omega
theorem flat_at (A O : Nat → Int) (n : Nat) : ∀ i, i < n → (flat A O n)[i * 2]? = some (.int .i64 (A i)) ∧ (flat A O n)[i * 2 + 1]? = some (.int .i64 (O i)) := by
  induction n with
  | zero => intro i hi; omega
  | succ n ih =>
    intro i hi
    have e : flat A O (n + 1) = flat A O n ++ [.int .i64 (A n), .int .i64 (O n)] := rfl
    rw [e]
    by_cases h : i = n
    · subst h
      have hl := flat_len A O i
      rw [List.getElem?_append_right (by omega), List.getElem?_append_right (by omega), hl]
      constructor
      · rw [show i * 2 - i * 2 = 0 by omega]; rfl
      · rw [show i * 2 + 1 - i * 2 = 1 by omega]; rfl
    · obtain ⟨a, b⟩ := ih i (by omega)
      have hl := flat_len A O n
      rw [List.getElem?_append_left (by omega), List.getElem?_append_left (by omega)]
      exact ⟨a, b⟩
theorem flat_congr {A O A' O' : Nat → Int} {n : Nat} (hA : ∀ i, i < n → A' i = A i) (hO : ∀ i, i < n → O' i = O i) : flat A' O' n = flat A O n := by
  induction n with
  | zero => rfl
  | succ n ih =>
    have e : flat A O (n + 1) = flat A O n ++ [.int .i64 (A n), .int .i64 (O n)] := rfl
    have e' : flat A' O' (n + 1) = flat A' O' n ++ [.int .i64 (A' n), .int .i64 (O' n)] := rfl
    rw [e, e', ih (fun i hi => hA i (by omega)) (fun i hi => hO i (by omega)), hA n (by omega), hO n (by omega)]
theorem flat_upd (A O : Nat → Int) (n : Nat) (a o : Int) : flat A O n ++ [.int .i64 a, .int .i64 o] = flat (upd A n a) (upd O n o) (n + 1) := by
  have e' : flat (upd A n a) (upd O n o) (n + 1) = flat (upd A n a) (upd O n o) n ++ [.int .i64 (upd A n a n), .int .i64 (upd O n o n)] := rfl
  rw [e', upd_at, upd_at, flat_congr (A := A) (O := O) (fun i hi => upd_ne _ _ (by omega)) (fun i hi => upd_ne _ _ (by omega))]
/-- the reference's state: its list of samples has the machine's runs -/
structure RInv (c : Conf) (s : St) (an : Bool) (V : Nat → Int) (m K : Nat) : Prop where
  h : s.high = rn (fun v => decide (c.hi < v)) V m
  l : s.low = rn (fun v => decide (v < c.lo)) V m
  a : an = false → s.last = 0
  k : m ≤ K
theorem RInv.new (c : Conf) : RInv c St.new false (fun _ => 0) 0 0 := ⟨rfl, rfl, fun _ => rfl, Nat.le_refl _⟩
end Go.Proofs.Ytgkcegmbjiodgaa.Alm
