/- The contracts of layer 7: the search for an instant (package): the closures, least; Tai of the package at the kinds with windows. -/
import Derived.Test.YtnnfaejejnfckaaDoorSmrV
namespace Go.Proofs.YtnnfaejejnfckaaDoor.Smr
open Go.RowKit Aid Civ Leap
set_option maxHeartbeats 1600000 in
theorem Search_any (N r : Int) (hN0 : 0 ≤ r) (hN : N ≤ 4000000000000000000) (hr : r ≤ N) (c1 c2 : Value) (I : World → Prop)
    (hf : ∀ W (i : Int), I W → 0 ≤ i → i < N → Calls Tryd.prog 47 #[.int .i64 i, c1, c2] W fun e w' => e = .returned (.bool (decide (r ≤ i))) ∧ I w') (w : World) (hw : I w) :
    Calls Tryd.prog 46 #[.int .i64 N, .func (Fn.func 47) #[] #[c1, c2]] w fun e w' => e = .returned (.int .i64 r) ∧ I w' := by
  have HF := hide hf
  clear hf
  go_enter Tryd.func46, Tryd.ntmps46
  go_wp2
  go_loopw [5, 6] (fun i j wr => ∃ lo hi : Int, 0 ≤ lo ∧ lo ≤ r ∧ r ≤ hi ∧ hi ≤ N ∧ i = .int .i64 lo ∧ j = .int .i64 hi ∧ I wr) (fun i j _ => (intOf j - intOf i).toNat)
  case atStart => exact ⟨0, N, by omega, by omega, hr, by omega, rfl, rfl, hw⟩
  case round =>
    obtain ⟨lo, hi, h0, h1, h2, h3, rfl, rfl, hI⟩ := hrel
    have HI := hide hI
    clear hI
    by_cases hlt : lo < hi
    · have C := HF.out wr ((lo + hi) / 2) HI.out (by omega) (by omega)
      by_cases hm : r ≤ (lo + hi) / 2
      · rw [show decide (r ≤ (lo + hi) / 2) = true by simpa using hm] at C
        have HC := hide C
        clear C
        go_wp2_with (go_at_call 47; refine HC.out.mono ?_; rintro e w' ⟨rfl, hI'⟩; have HI' := hide hI'; clear hI')
        go_roundw
        case rel => exact ⟨lo, (lo + hi) / 2, by omega, by omega, by omega, by omega, rfl, rfl, Hid.out (by assumption)⟩
        case measure => simp [intOf]; omega
      · rw [show decide (r ≤ (lo + hi) / 2) = false by simpa using hm] at C
        have HC := hide C
        clear C
        go_wp2_with (go_at_call 47; refine HC.out.mono ?_; rintro e w' ⟨rfl, hI'⟩; have HI' := hide hI'; clear hI')
        go_roundw
        case rel => exact ⟨(lo + hi) / 2 + 1, hi, by omega, by omega, by omega, by omega, rfl, rfl, Hid.out (by assumption)⟩
        case measure => simp [intOf]; omega
    · go_wp2
      go_ret
      exact ⟨ret_int (by omega), HI.out⟩
/-- the closure that Search is handed: the condition at lo + i -/
theorem least1_any (lo i x : Int) (b : Bool) (c1 c2 c3 : Value) (p q : Nat) (w w0 : World) (hx : lo + i = x) (hlo : -8000000000000000000 ≤ lo ∧ lo ≤ 8000000000000000000) (hi : 0 ≤ i ∧ i ≤ 20000000000000) (hp : w.cell? ⟨p, 0, none⟩ = some (.func (Fn.func 30) #[] #[c1, c2, c3])) (hq : w.cell? ⟨q, 0, none⟩ = some (.int .i64 lo))
    (hc : Calls Tryd.prog 30 #[.int .i64 x, c1, c2, c3] w fun e w' => e = .returned (.bool b) ∧ Below w0.heap.size w0 w') :
    Calls Tryd.prog 47 #[.int .i64 i, .pointer (some ⟨p, 0, none⟩), .pointer (some ⟨q, 0, none⟩)] w fun e w' => e = .returned (.bool b) ∧ Below w0.heap.size w0 w' := by
  have HC := hide hc
  obtain ⟨l1, l2⟩ := hlo
  obtain ⟨i1, i2⟩ := hi
  subst hx
  clear hc
  go_enter Tryd.func47, Tryd.ntmps47
  go_wp2_with fail
  with_reducible refine HC.out.mono ?_
  rintro e w' ⟨rfl, h⟩
  have HH := hide h
  clear h
  go_wp2
  go_ret
  exact ⟨rfl, HH.out⟩
set_option maxHeartbeats 1600000 in
theorem least_any (lo hi r : Int) (c1 c2 c3 : Value) (w : World) (hlo : -8000000000000000000 ≤ lo ∧ lo ≤ hi) (hhi : hi ≤ 8000000000000000000) (hw : hi - lo ≤ 10000000000000) (h1 : lo ≤ r) (h2 : r ≤ hi + 1)
    (hc : ∀ V, Below w.heap.size w V → ∀ x : Int, lo ≤ x → x ≤ hi → Calls Tryd.prog 30 #[.int .i64 x, c1, c2, c3] V fun e w' => e = .returned (.bool (decide (r ≤ x))) ∧ Below V.heap.size V w') :
    Calls Tryd.prog 29 #[.int .i64 lo, .int .i64 hi, .func (Fn.func 30) #[] #[c1, c2, c3]] w fun e w' => e = .returned (.tuple #[.int .i64 (if r ≤ hi then r else 0), .bool (decide (r ≤ hi))]) ∧ Below w.heap.size w w' := by
  obtain ⟨W0, hW0⟩ : ∃ W0, W0 = (w.alloc (.cells #[.int .i64 lo] 3)).alloc (.cells #[.func (Fn.func 30) #[] #[c1, c2, c3]] 41) := ⟨_, rfl⟩
  have HH := hide hW0
  have HB := hide (show Below w.heap.size w W0 by rw [hW0]; exact bb2 _ _)
  have hsz : W0.heap.size = w.heap.size + 2 := by rw [hW0]; simp
  have k0 : W0.cell? ⟨w.heap.size, 0, none⟩ = some (.int .i64 lo) := by rw [hW0]; simp [go_sem]
  have k1 : W0.cell? ⟨w.heap.size + 1, 0, none⟩ = some (.func (Fn.func 30) #[] #[c1, c2, c3]) := by rw [hW0]; simp [go_sem]
  have hb0 := Below.refl W0.heap.size W0
  have HK := hide (fun (V : World) (g : Below W0.heap.size W0 V) => And.intro ((g.cell (p := ⟨w.heap.size, 0, none⟩) (by dsimp only; omega)).trans k0) ((g.cell (p := ⟨w.heap.size + 1, 0, none⟩) (by dsimp only; omega)).trans k1))
  have CS := hide (Search_any (hi - lo + 1) (r - lo) (by omega) (by omega) (by omega) (.pointer (some ⟨w.heap.size + 1, 0, none⟩)) (.pointer (some ⟨w.heap.size, 0, none⟩)) (fun W => Below W0.heap.size W0 W)
    (fun W i hI i0 i1 => by
      have q := hc W (HB.out.trans (hI.mono HB.out.size)) (lo + i) (by omega) (by omega)
      have e : decide (r ≤ lo + i) = decide (r - lo ≤ i) := by rw [decide_eq_decide]; omega
      rw [e] at q
      exact least1_any lo i (lo + i) _ c1 c2 c3 _ _ W W0 rfl ⟨hlo.1, by omega⟩ ⟨i0, by omega⟩ (HK.out W hI).2 (HK.out W hI).1 (q.mono fun _ _ h => ⟨h.1, hI.trans (h.2.mono hI.size)⟩)) W0 hb0)
  obtain ⟨l1, l2⟩ := hlo
  clear hc hW0 k0 k1 hsz
  by_cases hr : r ≤ hi
  · rw [if_pos hr, decide_eq_true hr]
    have e1 : lo + (r - lo) = r := by omega
    go_enter Tryd.func29, Tryd.ntmps29
    go_wp2_with fail
    rw [← HH.out]
    with_reducible refine CS.out.mono ?_
    rintro e w1 ⟨rfl, b1⟩
    obtain ⟨c0, _⟩ := HK.out _ b1
    have HF := hide (HB.out.trans (b1.mono HB.out.size))
    clear b1
    go_wp2
    go_ret2
    exact ⟨rfl, HF.out⟩
  · rw [if_neg hr, decide_eq_false hr]
    have e1 : lo + (r - lo) = r := by omega
    have hr2 : hi < r := by omega
    go_enter Tryd.func29, Tryd.ntmps29
    go_wp2_with fail
    rw [← HH.out]
    with_reducible refine CS.out.mono ?_
    rintro e w1 ⟨rfl, b1⟩
    obtain ⟨c0, _⟩ := HK.out _ b1
    have HF := hide (HB.out.trans (b1.mono HB.out.size))
    clear b1
    go_wp2
    go_ret2
    exact ⟨rfl, HF.out⟩
end Go.Proofs.YtnnfaejejnfckaaDoor.Smr
