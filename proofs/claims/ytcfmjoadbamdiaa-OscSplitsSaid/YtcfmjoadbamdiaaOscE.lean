/- The contracts of osc.reading and osc.spans, and of the reference's read (layer 9). -/
import Derived.Test.YtcfmjoadbamdiaaOscC
namespace Go.Proofs.Ytcfmjoadbamdiaa.OscW
open Go.RowKit OscP Aid

/-- a slice of spans: At, PPB, end -/
def SpansAt (w : World) (b : Nat) (n : Nat) (A P E : Nat → Int) : Prop :=
  b < w.heap.size ∧ ∀ i, i < n → w.cell? ⟨b, i * 3, none⟩ = some (.int .i64 (A i)) ∧ w.cell? ⟨b, i * 3 + 1, none⟩ = some (.int .i64 (P i)) ∧ w.cell? ⟨b, i * 3 + 2, none⟩ = some (.int .i64 (E i))
def ends (A : Nat → Int) (n : Nat) (i : Nat) : Int := if i + 1 < n then A (i + 1) else 1125899906842624

theorem clip {t e a : Int} (h : 0 ≤ t ∧ t ≤ 1125899906842624) (he : 0 ≤ e ∧ e ≤ 1125899906842624) (ha : 0 ≤ a ∧ a ≤ 1125899906842624) :
    (if 0 < wrap64 ((if e < t then e else t) - a) then wrap64 ((if e < t then e else t) - a) else 0) = max 0 (min t e - a) := by
  rw [IntWalk.wrap64_in _ (by omega)]
  omega
theorem dd_ends {A : Nat → Int} {n : Nat} {t : Int} {k : Nat} (h : t ≤ 1125899906842624) : max 0 (min t (ends A n k) - A k) = dd A n t k := by
  unfold dd ends
  split <;> omega
theorem step_w {S p D : Int} (hS : -9008000000000 ≤ S ∧ S ≤ 9008000000000) (hp : -500000 ≤ p ∧ p ≤ 500000) (hD : 0 ≤ D ∧ D ≤ 1125899906842624) :
    wrap64 (S + wrap64 (p * wrap64 (D.tdiv 1000000000))) = S + p * (D / B) := by
  rw [Int.tdiv_eq_ediv_of_nonneg hD.1, IntWalk.wrap64_in (D / 1000000000) (by omega)]
  have := mul_bd (b := 1126000) hp (show 0 ≤ D / 1000000000 ∧ D / 1000000000 ≤ 1126000 by omega)
  rw [IntWalk.wrap64_in (p * (D / 1000000000)) (by omega), IntWalk.wrap64_in _ (by omega)]
  rfl
theorem step_r {S p D : Int} (hS : -8000000000000000 ≤ S ∧ S ≤ 8000000000000000) (hp : -500000 ≤ p ∧ p ≤ 500000) (hD : 0 ≤ D ∧ D ≤ 1125899906842624) :
    wrap64 (S + wrap64 (p * (D % 1000000000))) = S + p * (D % B) := by
  have := mul_bd (b := 1000000000) hp (show 0 ≤ D % 1000000000 ∧ D % 1000000000 ≤ 1000000000 by omega)
  rw [IntWalk.wrap64_in (p * (D % 1000000000)) (by omega), IntWalk.wrap64_in _ (by omega)]
  rfl
theorem ends_bd {ph : Int} {A P : Nat → Int} {n : Nat} (ok : Ok ph A P n) (k : Nat) : 0 ≤ ends A n k ∧ ends A n k ≤ 1125899906842624 := by
  unfold ends
  split
  · exact ok.ain _ (by assumption)
  · omega
theorem rd_last {ph t : Int} {A P : Nat → Int} {n k : Nat} (e : k = n) (ok : Ok ph A P n) (ht : 0 ≤ t ∧ t ≤ 1125899906842624) (w1 : -9008000000000 ≤ sumTo (wholeT A P n t) k ∧ sumTo (wholeT A P n t) k ≤ 9008000000000)
    (r1 : -8000000000000000 ≤ sumTo (restT A P n t) k ∧ sumTo (restT A P n t) k ≤ 8000000000000000) :
    wrap64 (wrap64 (wrap64 (ph + t) + sumTo (wholeT A P n t) k) + sumTo (restT A P n t) k / 1000000000) = rd ph A P n t := by
  subst e
  have := ok.ph1
  have := ok.ph2
  rw [IntWalk.wrap64_in (ph + t) (by omega), IntWalk.wrap64_in (ph + t + sumTo (wholeT A P k t) k) (by omega), IntWalk.wrap64_in _ (by omega)]
  rfl

set_option maxHeartbeats 1600000 in
theorem reading_any (ph : Int) (b n cap : Nat) (A P : Nat → Int) (t : Int) (w : World) (hr : SpansAt w b n A P (ends A n)) (ok : Ok ph A P n) (ht : 0 ≤ t ∧ t ≤ 1125899906842624) :
    Calls Try.prog 21 #[.int .i64 ph, .slice (some ⟨b, 0, none⟩) n cap, .int .i64 t] w fun e w' => e = .returned (.int .i64 (rd ph A P n t)) ∧ Below w.heap.size w w' := by
  obtain ⟨hlt, hc⟩ := hr
  have hn16 := ok.n16
  have HC := hide hc
  have HO := hide ok
  obtain ⟨ht1, ht2⟩ := ht
  clear hc ok
  go_enter Try.func21, Try.ntmps21
  go_wp2
  go_loopw [7, 8, 16] (fun x y i wr => ∃ k : Nat, k ≤ n ∧ i = .int .i64 k ∧ x = .int .i64 (sumTo (wholeT A P n t) k) ∧ y = .int .i64 (sumTo (restT A P n t) k) ∧ Below w.heap.size w wr) (fun _ _ i _ => n - (intOf i).toNat)
  case atStart => exact ⟨0, by omega, rfl, rfl, rfl, Below.refl _ _⟩
  case round =>
    obtain ⟨k, hk, rfl, rfl, rfl, hb⟩ := hrel
    have hs : w.heap.size ≤ wr.heap.size := hb.size
    have w1 := wsum_bd HO.out ⟨ht1, ht2⟩ k hk
    have r1 := rsum_bd HO.out ⟨ht1, ht2⟩ k hk
    by_cases hlt' : k < n
    · obtain ⟨c0, c1, c2⟩ := HC.out k hlt'
      have hbl : b < wr.heap.size := Nat.lt_of_lt_of_le hlt hs
      have hc0 := (hb.cell (p := ⟨b, k * 3, none⟩) hlt).trans c0
      have hc1 := (hb.cell (p := ⟨b, k * 3 + 1, none⟩) hlt).trans c1
      have hc2 := (hb.cell (p := ⟨b, k * 3 + 2, none⟩) hlt).trans c2
      have ha := HO.out.ain k hlt'
      have hp := HO.out.pin k hlt'
      clear c0 c1 c2
      go_wp2
      go_roundw
      case rel =>
        refine ⟨k + 1, by omega, by go_num, ?_, ?_, hb.alloc hs _⟩
        · congr 1
          rw [clip ⟨ht1, ht2⟩ (ends_bd HO.out k) ha, dd_ends ht2, step_w w1 hp (dd_bd HO.out ⟨ht1, ht2⟩ k hlt')]
          rfl
        · congr 1
          rw [clip ⟨ht1, ht2⟩ (ends_bd HO.out k) ha, dd_ends ht2, step_r r1 hp (dd_bd HO.out ⟨ht1, ht2⟩ k hlt')]
          rfl
      case measure => simp [intOf]; omega
    · have C := Fx.Floor_any (sumTo (restT A P n t) k) 1000000000 wr (by omega) (by omega) (by omega)
      go_wp2_with (go_at_call 27; refine C.mono ?_; rintro e w' ⟨rfl, nq, rfl⟩)
      go_ret
      have e : k = n := by omega
      exact ⟨ret_int (rd_last e HO.out ⟨ht1, ht2⟩ w1 r1), below_drewN hb _⟩
end Go.Proofs.Ytcfmjoadbamdiaa.OscW
