/- The contracts of layer 7: the small functions, Check of both. -/
import Derived.Test.YtnnfaejejnfckaaDoorSmrTab
import Derived.Test.YtnnfaejejnfckaaDoorLeapB
import Derived.Test.YtnnfaejejnfckaaDoorLeapC
import Derived.Test.YtnnfaejejnfckaaDoorFixed
import Derived.Test.YtnnfaejejnfckaaDoorRone
import Derived.Test.YtnnfaejejnfckaaDoorQuiet
namespace Go.Proofs.YtnnfaejejnfckaaDoor.Smr
open Go.RowKit Aid Civ Leap
def instB (t : Int) : Bool := decide (-8000000000000000000 ≤ t ∧ t ≤ 8000000000000000000)
theorem instB_iff {t : Int} : instB t = true ↔ -8000000000000000000 ≤ t ∧ t ≤ 8000000000000000000 := by simp [instB]
theorem instant_any (t : Int) (w : World) : Calls Tryd.prog 24 #[.int .i64 t] w fun e w' => e = .returned (.bool (instB t)) ∧ w = w' := by
  by_cases hc : -8000000000000000000 ≤ t
  · have hd : decide (-8000000000000000000 ≤ t) = true := decide_eq_true hc
    go_enter Tryd.func24, Tryd.ntmps24
    go_wp2
    go_ret
    exact ⟨ret_bool (by simp [instB, hc]), by first | rfl | trivial⟩
  · have hd : decide (-8000000000000000000 ≤ t) = false := decide_eq_false hc
    go_enter Tryd.func24, Tryd.ntmps24
    go_wp2
    go_ret
    exact ⟨ret_bool (by unfold instB; simp; omega), by first | rfl | trivial⟩
theorem inside_any (t : Int) (w : World) : Calls Tryd.prog 26 #[.int .i64 t] w fun e w' => e = .returned (.bool (instB t)) ∧ w = w' := by
  by_cases hc : -8000000000000000000 ≤ t
  · have hd : decide (-8000000000000000000 ≤ t) = true := decide_eq_true hc
    go_enter Tryd.func26, Tryd.ntmps26
    go_wp2
    go_ret
    exact ⟨ret_bool (by simp [instB, hc]), by first | rfl | trivial⟩
  · have hd : decide (-8000000000000000000 ≤ t) = false := decide_eq_false hc
    go_enter Tryd.func26, Tryd.ntmps26
    go_wp2
    go_ret
    exact ⟨ret_bool (by unfold instB; simp; omega), by first | rfl | trivial⟩
theorem bb1 {w : World} (a : Obj) : Below w.heap.size w (w.alloc a) := (Below.refl _ _).alloc (Nat.le_refl _) a
theorem bb2 {w : World} (a b : Obj) : Below w.heap.size w ((w.alloc a).alloc b) := ((Below.refl _ _).alloc (Nat.le_refl _) a).alloc (by simp) b
theorem change_any (a o : Int) (w : World) (ha : -8000000000 ≤ a ∧ a ≤ 8000000000) (ho : -1000 ≤ o ∧ o ≤ 1000) :
    Calls Tryd.prog 45 #[.agg #[.int .i64 a, .int .i64 o]] w fun e w' => e = .returned (.int .i64 ((a + o) * 1000000000)) ∧ Below w.heap.size w w' := by
  obtain ⟨a1, a2⟩ := ha
  obtain ⟨o1, o2⟩ := ho
  go_enter Tryd.func45, Tryd.ntmps45
  go_wp2
  go_ret
  exact ⟨rfl, bb1 _⟩
def bgn (K W a o : Int) : Int := (a + o) * 1000000000 - shf K W
theorem begin_any (K W a o : Int) (w : World) (h : KW K W) (ha : -8000000000 ≤ a ∧ a ≤ 8000000000) (ho : -1000 ≤ o ∧ o ≤ 1000) :
    Calls Tryd.prog 48 #[.agg #[.int .i64 K, .int .i64 W], .agg #[.int .i64 a, .int .i64 o]] w fun e w' => e = .returned (.int .i64 (bgn K W a o)) ∧ Below w.heap.size w w' := by
  obtain ⟨a1, a2⟩ := ha
  obtain ⟨o1, o2⟩ := ho
  have hh : (K = 2 ∧ 2 ≤ W ∧ W ≤ 172800 ∧ W % 2 = 0) ∨ (K = 3 ∧ 2 ≤ W ∧ W ≤ 172800) ∨ ((K == 2) = false ∧ (K == 3) = false ∧ shf K W = 0) := by
    unfold KW at h
    rcases h with ⟨rfl, rfl⟩ | ⟨rfl | rfl | rfl, h⟩
    · exact .inr (.inr ⟨rfl, rfl, rfl⟩)
    · exact .inl ⟨rfl, h⟩
    · exact .inr (.inl ⟨rfl, h.1, h.2.1⟩)
    · exact .inr (.inr ⟨rfl, rfl, rfl⟩)
  clear h
  rcases hh with ⟨rfl, w1, w2, w3⟩ | ⟨rfl, w1, w2⟩ | ⟨k2, k3, e⟩
  · have e2 : W.tdiv 2 = W / 2 := by rw [Int.tdiv_eq_ediv, if_pos (.inl (by omega))]; omega
    obtain ⟨v, hv⟩ : ∃ v, W = v + v := ⟨W / 2, by omega⟩
    subst hv
    rw [show (v + v) / 2 = v by omega] at e2
    clear w3
    go_enter Tryd.func48, Tryd.ntmps48
    go_wp2
    go_ret
    exact ⟨ret_int (by unfold bgn shf; simp; omega), bb2 _ _⟩
  · go_enter Tryd.func48, Tryd.ntmps48
    go_wp2
    go_ret
    exact ⟨ret_int (by unfold bgn shf; simp), bb2 _ _⟩
  · unfold bgn
    rw [e, Int.sub_zero]
    clear e
    go_enter Tryd.func48, Tryd.ntmps48
    go_wp2
    go_ret
    exact ⟨rfl, bb2 _ _⟩
theorem offset_any (B X : Int) (a : Option Addr) (n cap : Nat) (A O : Nat → Int) (p : Nat) (w : World) (hr : Ents w a n A O) (hp : p ≤ n) :
    Calls Tryd.prog 38 #[.agg #[.int .i64 B, .int .i64 X, .slice a n cap], .int .i64 p] w fun e w' => e = .returned (.int .i64 (offP B O p)) ∧ Below w.heap.size w w' := by
  have HB := hide (bb1 (w := w) (.cells #[.int .i64 B, .int .i64 X, .slice a n cap] 24))
  have hn := hr.1
  by_cases hk0 : p = 0
  · subst hk0
    clear hr
    go_enter Tryd.func38, Tryd.ntmps38
    go_wp2
    go_ret
    exact ⟨ret_int (by simp [offP]), HB.out⟩
  · obtain ⟨b, off, rfl, hlt, hc⟩ := hr.2 (by omega)
    have hz1 : ((p : Int) == 0) = false := by simp; omega
    have hcp := (hc (p - 1) (by omega)).2
    have hcp2 : (w.alloc (.cells #[.int .i64 B, .int .i64 X, .slice (some ⟨b, off, none⟩) n cap] 24)).cell? ⟨b, off + (p - 1) * 2 + 1, none⟩ = some (.int .i64 (O (p - 1))) := (HB.out.cell (p := ⟨b, off + (p - 1) * 2 + 1, none⟩) hlt).trans hcp
    clear hr hc
    go_enter Tryd.func38, Tryd.ntmps38
    go_wp2
    go_ret
    exact ⟨ret_int (by simp [offP, hk0]), HB.out⟩
end Go.Proofs.YtnnfaejejnfckaaDoor.Smr
