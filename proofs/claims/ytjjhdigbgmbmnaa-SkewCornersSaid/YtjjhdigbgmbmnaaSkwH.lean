/- The contracts of layer 52: Check of both packages. -/
import Derived.Test.YtjjhdigbgmbmnaaSkwG
namespace Go.Proofs.Ytjjhdigbgmbmnaa.Skw
open Go.RowKit Aid Fx
set_option maxRecDepth 100000 in
set_option maxHeartbeats 6400000 in
theorem Check_any (a : Option Addr) (n cap : Nat) (X L H : Nat → Int) (w : World) (hg : GatesAt w a n X L H) :
    Calls Try.prog 14 #[.slice a n cap] w fun e w' => e = .returned (.int .i64 (chkG X L H n)) ∧ Below w.heap.size w w' := by
  have hn63 := hg.1
  by_cases h0 : n = 0
  · subst h0
    have e : chkG X L H 0 = 14 := rfl
    rw [e]
    clear e hg
    go_enter Try.func14, Try.ntmps14
    go_wp2
    go_ret
    exact ⟨rfl, Below.refl _ _⟩
  by_cases h1 : 1024 < n
  · have e : chkG X L H n = 6 := by unfold chkG; rw [if_neg h0, if_pos h1]
    rw [e]
    have h1q : 1024 < (n : Int) := by omega
    have h0q : ((n : Int) == 0) = false := by simp; omega
    clear e hg
    go_enter Try.func14, Try.ntmps14
    go_wp2
    go_ret
    exact ⟨rfl, Below.refl _ _⟩
  have e : chkG X L H n = firstE (gE X L H) n := by unfold chkG; rw [if_neg h0, if_neg h1]
  rw [e]
  clear e
  have h1q : (n : Int) ≤ 1024 := by omega
  have h0q : ((n : Int) == 0) = false := by simp; omega
  obtain ⟨b, off, rfl, hlt, hc⟩ := hg.at_ (by omega)
  have HC := hide (fun W (q : Below w.heap.size w W) i (hi : i < n) => And.intro ((q.cell (p := ⟨b, off + i * 3, none⟩) hlt).trans (hc i hi).1) (And.intro ((q.cell (p := ⟨b, off + i * 3 + 1, none⟩) hlt).trans (hc i hi).2.1) ((q.cell (p := ⟨b, off + i * 3 + 2, none⟩) hlt).trans (hc i hi).2.2)))
  clear hg hc
  go_enter Try.func14, Try.ntmps14
  go_wp2
  go_loopw [13] (fun i wr => ∃ k : Nat, k ≤ n ∧ i = .int .i64 k ∧ firstE (gE X L H) k = 0 ∧ Below w.heap.size w wr) (fun i _ => n - (intOf i).toNat)
  case atStart => exact ⟨0, by omega, rfl, rfl, Below.refl _ _⟩
  case round =>
    obtain ⟨k, hk, rfl, hf, hb⟩ := hrel
    have HF := hide hf
    clear hf
    by_cases hlk : k < n
    · obtain ⟨c0, c1, c2⟩ := HC.out wr hb k hlk
      have hkq : (k : Int) < (n : Int) := by omega
      have hbs := hb.size
      have hbq : b < wr.heap.size := by omega
      obtain ⟨x, hx⟩ : ∃ x, x = X k := ⟨_, rfl⟩
      obtain ⟨l, hl⟩ : ∃ x, x = L k := ⟨_, rfl⟩
      obtain ⟨h, hh⟩ : ∃ x, x = H k := ⟨_, rfl⟩
      rw [← hx] at c0
      rw [← hl] at c1
      rw [← hh] at c2
      have HX := hide (And.intro hx (And.intro hl hh))
      have hba := hide ((hb.alloc hb.size (.cells #[.int .i64 x, .int .i64 l, .int .i64 h] 43)))
      clear hx hl hh
      by_cases hr : InR x l h
      · obtain ⟨r1, r2, r3, r4, r5, r6⟩ := id hr
        have HR := hide hr
        clear hr
        by_cases ho : h < l
        · have HO := hide ho
          have HP := hide hb
          clear hb
          go_wp2
          all_goals
            skip
            go_wp2
            go_ret
            refine ⟨ret_int ?_, ?_⟩
            · have e : gE X L H k = 12 := by unfold gE; rw [← HX.out.1, ← HX.out.2.1, ← HX.out.2.2, if_pos HR.out, if_pos (.inl HO.out)]
              rw [firstE_hit HF.out hlk (by rw [e]; decide), e]
            · first | exact hba.out | exact below_drewN hba.out _
        · have ho2 : l ≤ h := by omega
          have ho3 : decide (h < l) = false := by simp; omega
          by_cases hk0 : k = 0
          · have hk0q : decide (0 < (k : Int)) = false := by simp; omega
            have hk0d : decide (0 < k) = false := by simp; omega
            have HP := hide hb
            have HK0 := hide hk0
            clear hk0
            clear hb ho
            go_wp2
            all_goals
              go_quiet (fail)
              go_wp2
              go_roundw
              case rel =>
                refine ⟨k + 1, by omega, by go_num, step_pass HF.out ?_, by first | exact hba.out | exact below_drewN hba.out _⟩
                unfold gE
                rw [← HX.out.1, ← HX.out.2.1, ← HX.out.2.2, if_pos HR.out, if_neg (by have := HK0.out; omega)]
              case measure => (simp [intOf]) <;> omega
          · obtain ⟨p0, _, _⟩ := HC.out wr hb (k - 1) (by omega)
            have hkp : 0 < k := by omega
            have hkpq : 0 < (k : Int) := by omega
            obtain ⟨y, hy⟩ : ∃ x, x = X (k - 1) := ⟨_, rfl⟩
            rw [← hy] at p0
            have HY := hide hy
            have HP := hide hb
            clear hy hb ho
            by_cases hp : x ≤ y
            · have HQ := hide hp
              go_wp2
              all_goals
                go_quiet (fail)
                go_wp2
                go_ret
                refine ⟨ret_int ?_, ?_⟩
                · have e : gE X L H k = 12 := by unfold gE; rw [← HX.out.1, ← HX.out.2.1, ← HX.out.2.2, if_pos HR.out, ← HY.out, if_pos (.inr ⟨hkp, HQ.out⟩)]
                  rw [firstE_hit HF.out hlk (by rw [e]; decide), e]
                · first | exact hba.out | exact below_drewN hba.out _
            · have hp2 : y < x := by omega
              have HQ := hide hp
              clear hp
              go_wp2
              all_goals
                go_quiet (fail)
                go_wp2
                go_roundw
                case rel =>
                  refine ⟨k + 1, by omega, by go_num, step_pass HF.out ?_, by first | exact hba.out | exact below_drewN hba.out _⟩
                  unfold gE
                  rw [← HX.out.1, ← HX.out.2.1, ← HX.out.2.2, if_pos HR.out, ← HY.out, if_neg (by have := HQ.out; omega)]
                case measure => (simp [intOf]) <;> omega
      · have HR := hide hr
        have hs : x < 0 ∨ 1073741824 < x ∨ l < -1073741824 ∨ 1073741824 < l ∨ h < -1073741824 ∨ 1073741824 < h := by unfold InR at hr; omega
        have HP := hide hb
        clear hb hr
        rcases hs with s | s | s | s | s | s
        all_goals
          go_wp2
          all_goals
            go_ret
            refine ⟨ret_int ?_, ?_⟩
            · have e : gE X L H k = 3 := by unfold gE; rw [← HX.out.1, ← HX.out.2.1, ← HX.out.2.2, if_neg HR.out]
              rw [firstE_hit HF.out hlk (by rw [e]; decide), e]
            · exact hba.out
    · obtain rfl : k = n := by omega
      have HB := hide hb
      clear hb
      go_wp2
      go_ret
      exact ⟨ret_int HF.out.symm, HB.out⟩
set_option maxRecDepth 100000 in
set_option maxHeartbeats 6400000 in
theorem RCheck_any (a : Option Addr) (n cap : Nat) (X L H : Nat → Int) (w : World) (hg : GatesAt w a n X L H) :
    Calls Try.prog 15 #[.slice a n cap] w fun e w' => e = .returned (.int .i64 (chkG X L H n)) ∧ Below w.heap.size w w' := by
  have hn63 := hg.1
  by_cases h0 : n = 0
  · subst h0
    have e : chkG X L H 0 = 14 := rfl
    rw [e]
    clear e hg
    go_enter Try.func15, Try.ntmps15
    go_wp2
    go_ret
    exact ⟨rfl, Below.refl _ _⟩
  by_cases h1 : 1024 < n
  · have e : chkG X L H n = 6 := by unfold chkG; rw [if_neg h0, if_pos h1]
    rw [e]
    have h1q : 1024 < (n : Int) := by omega
    have h0q : ((n : Int) == 0) = false := by simp; omega
    clear e hg
    go_enter Try.func15, Try.ntmps15
    go_wp2
    go_ret
    exact ⟨rfl, Below.refl _ _⟩
  have e : chkG X L H n = firstE (gE X L H) n := by unfold chkG; rw [if_neg h0, if_neg h1]
  rw [e]
  clear e
  have h1q : (n : Int) ≤ 1024 := by omega
  have h0q : ((n : Int) == 0) = false := by simp; omega
  obtain ⟨b, off, rfl, hlt, hc⟩ := hg.at_ (by omega)
  have HC := hide (fun W (q : Below w.heap.size w W) i (hi : i < n) => And.intro ((q.cell (p := ⟨b, off + i * 3, none⟩) hlt).trans (hc i hi).1) (And.intro ((q.cell (p := ⟨b, off + i * 3 + 1, none⟩) hlt).trans (hc i hi).2.1) ((q.cell (p := ⟨b, off + i * 3 + 2, none⟩) hlt).trans (hc i hi).2.2)))
  clear hg hc
  go_enter Try.func15, Try.ntmps15
  go_wp2
  go_loopw [3] (fun i wr => ∃ k : Nat, k ≤ n ∧ i = .int .i64 k ∧ firstE (gE X L H) k = 0 ∧ Below w.heap.size w wr) (fun i _ => n - (intOf i).toNat)
  case atStart => exact ⟨0, by omega, rfl, rfl, Below.refl _ _⟩
  case round =>
    obtain ⟨k, hk, rfl, hf, hb⟩ := hrel
    have HF := hide hf
    clear hf
    by_cases hlk : k < n
    · obtain ⟨c0, c1, c2⟩ := HC.out wr hb k hlk
      have hkq : (k : Int) < (n : Int) := by omega
      have hbs := hb.size
      have hbq : b < wr.heap.size := by omega
      obtain ⟨x, hx⟩ : ∃ x, x = X k := ⟨_, rfl⟩
      obtain ⟨l, hl⟩ : ∃ x, x = L k := ⟨_, rfl⟩
      obtain ⟨h, hh⟩ : ∃ x, x = H k := ⟨_, rfl⟩
      rw [← hx] at c0
      rw [← hl] at c1
      rw [← hh] at c2
      have HX := hide (And.intro hx (And.intro hl hh))
      have hba := hide ((hb.alloc hb.size (.cells #[.int .i64 x, .int .i64 l, .int .i64 h] 43)))
      clear hx hl hh
      by_cases hr : InR x l h
      · obtain ⟨r1, r2, r3, r4, r5, r6⟩ := id hr
        have HR := hide hr
        clear hr
        by_cases ho : h < l
        · have HO := hide ho
          have HP := hide hb
          clear hb
          go_wp2
          all_goals
            go_quiet (fail)
            go_wp2
            go_ret
            refine ⟨ret_int ?_, ?_⟩
            · have e : gE X L H k = 12 := by unfold gE; rw [← HX.out.1, ← HX.out.2.1, ← HX.out.2.2, if_pos HR.out, if_pos (.inl HO.out)]
              rw [firstE_hit HF.out hlk (by rw [e]; decide), e]
            · first | exact hba.out | exact below_drewN hba.out _
        · have ho2 : l ≤ h := by omega
          have ho3 : decide (h < l) = false := by simp; omega
          by_cases hk0 : k = 0
          · have hk0q : decide (0 < (k : Int)) = false := by simp; omega
            have hk0d : decide (0 < k) = false := by simp; omega
            have HP := hide hb
            have HK0 := hide hk0
            clear hk0
            clear hb ho
            go_wp2
            all_goals
              go_quiet (fail)
              go_wp2
              go_roundw
              case rel =>
                refine ⟨k + 1, by omega, by go_num, step_pass HF.out ?_, by first | exact hba.out | exact below_drewN hba.out _⟩
                unfold gE
                rw [← HX.out.1, ← HX.out.2.1, ← HX.out.2.2, if_pos HR.out, if_neg (by have := HK0.out; omega)]
              case measure => (simp [intOf]) <;> omega
          · obtain ⟨p0, _, _⟩ := HC.out wr hb (k - 1) (by omega)
            have hkp : 0 < k := by omega
            have hkpq : 0 < (k : Int) := by omega
            obtain ⟨y, hy⟩ : ∃ x, x = X (k - 1) := ⟨_, rfl⟩
            rw [← hy] at p0
            have HY := hide hy
            have HP := hide hb
            clear hy hb ho
            by_cases hp : x ≤ y
            · have HQ := hide hp
              go_wp2
              all_goals
                go_quiet (fail)
                go_wp2
                go_ret
                refine ⟨ret_int ?_, ?_⟩
                · have e : gE X L H k = 12 := by unfold gE; rw [← HX.out.1, ← HX.out.2.1, ← HX.out.2.2, if_pos HR.out, ← HY.out, if_pos (.inr ⟨hkp, HQ.out⟩)]
                  rw [firstE_hit HF.out hlk (by rw [e]; decide), e]
                · first | exact hba.out | exact below_drewN hba.out _
            · have hp2 : y < x := by omega
              have HQ := hide hp
              clear hp
              go_wp2
              all_goals
                go_quiet (fail)
                go_wp2
                go_roundw
                case rel =>
                  refine ⟨k + 1, by omega, by go_num, step_pass HF.out ?_, by first | exact hba.out | exact below_drewN hba.out _⟩
                  unfold gE
                  rw [← HX.out.1, ← HX.out.2.1, ← HX.out.2.2, if_pos HR.out, ← HY.out, if_neg (by have := HQ.out; omega)]
                case measure => (simp [intOf]) <;> omega
      · have HR := hide hr
        have hs : x < 0 ∨ 1073741824 < x ∨ l < -1073741824 ∨ 1073741824 < l ∨ h < -1073741824 ∨ 1073741824 < h := by unfold InR at hr; omega
        have HP := hide hb
        clear hb hr
        rcases hs with s | s | s | s | s | s
        all_goals
          go_wp2
          all_goals
            go_ret
            refine ⟨ret_int ?_, ?_⟩
            · have e : gE X L H k = 3 := by unfold gE; rw [← HX.out.1, ← HX.out.2.1, ← HX.out.2.2, if_neg HR.out]
              rw [firstE_hit HF.out hlk (by rw [e]; decide), e]
            · exact hba.out
    · obtain rfl : k = n := by omega
      have HB := hide hb
      clear hb
      go_wp2
      go_ret
      exact ⟨ret_int HF.out.symm, HB.out⟩
end Go.Proofs.Ytjjhdigbgmbmnaa.Skw
