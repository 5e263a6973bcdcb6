/- The contracts of Check, Rate and Bound of package osc and of its reference. -/
import Derived.Test.YtcfmjoadbamdiaaFixed
import Derived.Test.YtcfmjoadbamdiaaOscPlain
namespace Go.Proofs.Ytcfmjoadbamdiaa.OscW
open Go.RowKit OscP Aid

/-- a slice of segments that reads as A, P -/
def SegsAt (w : World) (a : Option Addr) (n : Nat) (A P : Nat → Int) : Prop :=
  n ≤ 9223372036854775807 ∧ (0 < n → ∃ b off, a = some ⟨b, off, none⟩ ∧ b < w.heap.size ∧ ∀ i, i < n → w.cell? ⟨b, off + i * 2, none⟩ = some (.int .i64 (A i)) ∧ w.cell? ⟨b, off + i * 2 + 1, none⟩ = some (.int .i64 (P i)))
theorem SegsAt.below {w w' : World} {a : Option Addr} {n : Nat} {A P : Nat → Int} (h : SegsAt w a n A P) (hb : Below w.heap.size w w') : SegsAt w' a n A P :=
  ⟨h.1, fun h0 => by
    obtain ⟨b, off, e, hlt, hc⟩ := h.2 h0
    exact ⟨b, off, e, Nat.lt_of_lt_of_le hlt hb.size, fun i hi => ⟨(hb.cell (p := ⟨b, _, none⟩) hlt).trans (hc i hi).1, (hb.cell (p := ⟨b, _, none⟩) hlt).trans (hc i hi).2⟩⟩⟩
theorem hit3 {A P : Nat → Int} {k n : Nat} (h0 : firstE (segE A P) k = 0) (hk : k < n) (h : A k < 0 ∨ 1125899906842624 < A k ∨ P k < -500000 ∨ 500000 < P k) : 3 = firstE (segE A P) n := by
  have : segE A P k = 3 := by unfold segE; rw [if_pos h]
  rw [firstE_hit h0 hk (by omega), this]
theorem hit7 {A P : Nat → Int} {k n : Nat} (h0 : firstE (segE A P) k = 0) (hk : k < n) (h : ¬ (A k < 0 ∨ 1125899906842624 < A k ∨ P k < -500000 ∨ 500000 < P k)) (h2 : k = 0 ∧ A k ≠ 0) : 7 = firstE (segE A P) n := by
  have : segE A P k = 7 := by unfold segE; rw [if_neg h, if_pos h2]
  rw [firstE_hit h0 hk (by omega), this]
theorem hit12 {A P : Nat → Int} {k n : Nat} (h0 : firstE (segE A P) k = 0) (hk : k < n) (h : ¬ (A k < 0 ∨ 1125899906842624 < A k ∨ P k < -500000 ∨ 500000 < P k)) (h2 : ¬ (k = 0 ∧ A k ≠ 0)) (h3 : 0 < k ∧ A k ≤ A (k - 1)) : 12 = firstE (segE A P) n := by
  have : segE A P k = 12 := by unfold segE; rw [if_neg h, if_neg h2, if_pos h3]
  rw [firstE_hit h0 hk (by omega), this]
theorem pass {A P : Nat → Int} {k : Nat} (h0 : firstE (segE A P) k = 0) (h : ¬ (A k < 0 ∨ 1125899906842624 < A k ∨ P k < -500000 ∨ 500000 < P k)) (h2 : ¬ (k = 0 ∧ A k ≠ 0)) (h3 : ¬ (0 < k ∧ A k ≤ A (k - 1))) : firstE (segE A P) (k + 1) = 0 := by
  unfold firstE
  rw [if_pos h0]
  unfold segE
  rw [if_neg h, if_neg h2, if_neg h3]

theorem Check_short (ph : Int) (a : Option Addr) (cap : Nat) (A P : Nat → Int) (w : World) :
    Calls Try.prog 11 #[.agg #[.int .i64 ph, .slice a 0 cap]] w fun e w' => e = .returned (.int .i64 (chk ph A P 0)) ∧ Below w.heap.size w w' := by
  go_enter Try.func11, Try.ntmps11
  go_wp2
  go_ret
  exact ⟨rfl, (Below.refl _ _).alloc (Nat.le_refl _) _⟩

theorem Check_long (ph : Int) (a : Option Addr) (n cap : Nat) (A P : Nat → Int) (w : World) (hn : 16 < n) (hn2 : n ≤ 9223372036854775807) :
    Calls Try.prog 11 #[.agg #[.int .i64 ph, .slice a n cap]] w fun e w' => e = .returned (.int .i64 (chk ph A P n)) ∧ Below w.heap.size w w' := by
  have hfin : chk ph A P n = 6 := by unfold chk; rw [if_neg (by omega), if_pos hn]
  rw [hfin]
  go_enter Try.func11, Try.ntmps11
  go_wp2
  go_ret
  exact ⟨rfl, (Below.refl _ _).alloc (Nat.le_refl _) _⟩
set_option maxHeartbeats 1600000 in
theorem Check_loop (ph : Int) (a : Option Addr) (n cap : Nat) (A P : Nat → Int) (w : World) (hr : SegsAt w a n A P) (h1 : 0 < n) (h16 : n ≤ 16) (hp : -1125899906842624 ≤ ph) (hp2 : ph ≤ 1125899906842624) :
    Calls Try.prog 11 #[.agg #[.int .i64 ph, .slice a n cap]] w fun e w' => e = .returned (.int .i64 (firstE (segE A P) n)) ∧ Below w.heap.size w w' := by
  obtain ⟨b, off, rfl, hlt, hc⟩ := hr.2 h1
  have HC := Lib.hid hc
  clear hc hr
  go_enter Try.func11, Try.ntmps11
  go_wp2
  go_loopw [27] (fun i wr => ∃ k : Nat, k ≤ n ∧ i = .int .i64 k ∧ firstE (segE A P) k = 0 ∧ Below (w.heap.size + 1) (w.alloc (.cells #[.int .i64 ph, .slice (some { block := b, off := off }) n cap] 24)) wr) (fun i _ => n - (intOf i).toNat)
  case atStart => exact ⟨0, by omega, rfl, rfl, Below.refl _ _⟩
  case round =>
    obtain ⟨k, hk, rfl, hf, hb⟩ := hrel
    have HF := Lib.hid hf
    clear hf
    have hs : w.heap.size < wr.heap.size := by have := hb.size; simp at this; omega
    have hbx : wr.cell? ⟨w.heap.size, 1, none⟩ = some (.slice (some { block := b, off := off }) n cap) := (hb.cell (p := ⟨w.heap.size, 1, none⟩) (by simp)).trans (by simp [go_sem])
    have hbw : Below w.heap.size w wr := ((Below.refl _ _).alloc (Nat.le_refl _) _).trans (hb.mono (by omega))
    by_cases hlt' : k < n
    · have hc0 : wr.cell? ⟨b, off + k * 2, none⟩ = some (.int .i64 (A k)) := (hbw.cell (p := ⟨b, off + k * 2, none⟩) hlt).trans (HC.out k hlt').1
      have hc1 : wr.cell? ⟨b, off + k * 2 + 1, none⟩ = some (.int .i64 (P k)) := (hbw.cell (p := ⟨b, off + k * 2 + 1, none⟩) hlt).trans (HC.out k hlt').2
      by_cases hk0 : k = 0
      · subst hk0
        simp only [Nat.zero_mul, Nat.add_zero] at hc0 hc1
        go_wp2
        all_goals first
          | (go_ret; exact ⟨ret_int (hit3 HF.out hlt' (by omega)), hbw.alloc (by omega) _⟩)
          | (go_ret; have hA : (A 0 != 0) = true := by assumption
             exact ⟨ret_int (hit7 HF.out hlt' (by omega) (by simp at hA; omega)), hbw.alloc (by omega) _⟩)
          | (have hA : (A 0 != 0) = false := by assumption
             go_quiet (fail)
             go_wp2
             go_roundw
             case rel => exact ⟨1, by omega, rfl, pass HF.out (by omega) (by simp at hA; omega) (by omega), below_drewN (hb.alloc (by omega) _) _⟩
             case measure => simp [intOf]; omega)
      · have hz1 : ((k : Int) == 0) = false := by simp; omega
        have hz2 : (0 : Int) < (k : Int) := by omega
        have hz3 : 0 < k := by omega
        have hbl : b < wr.heap.size := by omega
        have hcp : wr.cell? ⟨b, off + (k - 1) * 2, none⟩ = some (.int .i64 (A (k - 1))) := (hbw.cell (p := ⟨b, off + (k - 1) * 2, none⟩) hlt).trans (HC.out (k - 1) (by omega)).1
        have hcp2 : (wr.alloc (.cells #[.int .i64 (A k), .int .i64 (P k)] 32)).cell? ⟨b, off + (k - 1) * 2, none⟩ = some (.int .i64 (A (k - 1))) := (World.cell?_alloc_lt wr _ ⟨b, off + (k - 1) * 2, none⟩ hbl).trans hcp
        go_wp2
        all_goals first
          | (go_ret; exact ⟨ret_int (hit3 HF.out hlt' (by omega)), hbw.alloc (by omega) _⟩)
          | (go_quiet (fail)
             go_wp2
             · go_ret
               exact ⟨ret_int (hit12 HF.out hlt' (by omega) (by omega) (by omega)), below_drewN (hbw.alloc (by omega) _) _⟩
             · go_roundw
               case rel => exact ⟨k + 1, by omega, by go_num, pass HF.out (by omega) (by omega) (by omega), below_drewN (hb.alloc (by omega) _) _⟩
               case measure => simp [intOf]; omega)
    · go_wp2
      go_ret
      have : k = n := by omega
      rw [this] at HF
      exact ⟨ret_int HF.out.symm, ((Below.refl _ _).alloc (Nat.le_refl _) _).trans (hb.mono (by omega))⟩
end Go.Proofs.Ytcfmjoadbamdiaa.OscW
