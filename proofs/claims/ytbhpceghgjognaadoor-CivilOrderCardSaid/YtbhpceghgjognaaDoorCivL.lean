/- Layer 5: which strings have the form of a date. -/
import Derived.Test.YtbhpceghgjognaaDoorCivK
namespace Go.Proofs.YtbhpceghgjognaaDoor.Civ
open Go.RowKit Aid
def formB : ByteArray := ⟨#[48, 48, 48, 48, 45, 48, 48, 45, 48, 48, 84, 48, 48, 58, 48, 48, 58, 48, 48, 46, 48, 48, 48, 48, 48, 48, 48, 48, 48, 90]⟩
def formN (k : Nat) : Nat := [48, 48, 48, 48, 45, 48, 48, 45, 48, 48, 84, 48, 48, 58, 48, 48, 58, 48, 48, 46, 48, 48, 48, 48, 48, 48, 48, 48, 48, 90].getD k 0
theorem form_all : ∀ k : Fin 30, (formB[k.val]'k.isLt).toNat = formN k.val := by decide +kernel
def Good (s : ByteArray) (k : Nat) : Prop := ∀ h : k < s.size, (formN k = 48 ∧ 48 ≤ s[k].toNat ∧ s[k].toNat ≤ 57) ∨ (formN k ≠ 48 ∧ s[k].toNat = formN k)
def Formed (s : ByteArray) : Prop := s.size = 30 ∧ ∀ k, k < 30 → Good s k
set_option maxRecDepth 100000 in
set_option maxHeartbeats 3200000 in
theorem formed_any (s : ByteArray) (b : Bool) (hb : b = true ↔ Formed s) (w : World) :
    Calls Tryd.prog 34 #[.string s] w fun e w' => e = .returned (.bool b) ∧ ∃ n, w' = w.drewN n := by
  by_cases hs : s.size = 30
  · have HB := hide hb
    clear hb
    go_enter Tryd.func34, Tryd.ntmps34
    go_wp2
    go_loopw [10] (fun i wr => ∃ k : Nat, k ≤ 30 ∧ i = .int .i64 k ∧ (∀ j, j < k → Good s j) ∧ ∃ n, wr = w.drewN n) (fun i _ => 30 - (intOf i).toNat)
    case atStart => exact ⟨0, by omega, rfl, fun j hj => by omega, 0, rfl⟩
    case round =>
      obtain ⟨k, hk, rfl, hg, nn, rfl⟩ := hrel
      have HG := hide hg
      clear hg
      by_cases hlt : k < 30
      · have hk2 : k < s.size := by omega
        have hki : (k : Int) < 30 := by omega
        obtain ⟨c, hc⟩ : ∃ c : Nat, (s[k]'hk2).toNat = c := ⟨_, rfl⟩
        have hf := form_all ⟨k, hlt⟩
        dsimp only at hf
        obtain ⟨f, hfe⟩ : ∃ f : Nat, formN k = f := ⟨_, rfl⟩
        rw [hfe] at hf
        have hsz : formB.size = 30 := rfl
        unfold formB at hf hsz
        have HC := hide (And.intro hc hfe)
        by_cases h1 : 48 ≤ c
        · have u1 : decide ((48 : Int) ≤ (c : Int)) = true := decide_eq_true (by omega)
          by_cases h2 : c ≤ 57
          · have u2 : decide ((c : Int) ≤ 57) = true := decide_eq_true (by omega)
            by_cases hf48 : f = 48
            · subst hf48
              have HN : Hid (Good s k) := hide (fun h => .inl ⟨hfe, by rw [hc]; omega, by rw [hc]; omega⟩)
              clear hfe
              go_wp2
              go_quiet (fail)
              go_wp2
              go_roundw
              case rel => exact ⟨k + 1, by omega, by go_num, fun j hj => (by
                rcases Nat.lt_or_ge j k with h | h
                · exact HG.out j h
                · obtain rfl : j = k := by omega
                  exact HN.out), _, rfl⟩
              case measure => (simp [intOf]) <;> omega
            · have v1 : ((f : Int) == 48) = false := by simp; omega
              have v2 : ((f : Int) != 48) = true := by simp; omega
              by_cases hcf : c = f
              · have v3 : ((c : Int) != (f : Int)) = false := by simp; omega
                have HN : Hid (Good s k) := hide (fun h => .inr ⟨by rw [hfe]; exact hf48, by rw [hc, hfe]; exact hcf⟩)
                clear hfe
                go_wp2
                go_quiet (fail)
                go_wp2
                go_roundw
                case rel => exact ⟨k + 1, by omega, by go_num, fun j hj => (by
                  rcases Nat.lt_or_ge j k with h | h
                  · exact HG.out j h
                  · obtain rfl : j = k := by omega
                    exact HN.out), _, rfl⟩
                case measure => (simp [intOf]) <;> omega
              · have v3 : ((c : Int) != (f : Int)) = true := by simp; omega
                have HN : Hid (b = false) := hide (by
                  cases b
                  · rfl
                  · exfalso
                    have := (HB.out.1 rfl).2 k hlt hk2
                    rw [hc, hfe] at this
                    omega)
                clear hfe
                go_wp2
                go_quiet (fail)
                go_wp2
                go_ret
                exact ⟨by rw [HN.out]; rfl, _, World.drewN_drewN _ _ _⟩
          · have u2 : decide ((c : Int) ≤ 57) = false := decide_eq_false (by omega)
            by_cases hf48 : f = 48
            · subst hf48
              have HN : Hid (b = false) := hide (by
                cases b
                · rfl
                · exfalso
                  have := (HB.out.1 rfl).2 k hlt hk2
                  rw [hc, hfe] at this
                  omega)
              clear hfe
              go_wp2
              go_quiet (fail)
              go_wp2
              go_ret
              exact ⟨by rw [HN.out]; rfl, _, World.drewN_drewN _ _ _⟩
            · have v1 : ((f : Int) == 48) = false := by simp; omega
              have v2 : ((f : Int) != 48) = true := by simp; omega
              by_cases hcf : c = f
              · have v3 : ((c : Int) != (f : Int)) = false := by simp; omega
                have HN : Hid (Good s k) := hide (fun h => .inr ⟨by rw [hfe]; exact hf48, by rw [hc, hfe]; exact hcf⟩)
                clear hfe
                go_wp2
                go_quiet (fail)
                go_wp2
                go_roundw
                case rel => exact ⟨k + 1, by omega, by go_num, fun j hj => (by
                  rcases Nat.lt_or_ge j k with h | h
                  · exact HG.out j h
                  · obtain rfl : j = k := by omega
                    exact HN.out), _, rfl⟩
                case measure => (simp [intOf]) <;> omega
              · have v3 : ((c : Int) != (f : Int)) = true := by simp; omega
                have HN : Hid (b = false) := hide (by
                  cases b
                  · rfl
                  · exfalso
                    have := (HB.out.1 rfl).2 k hlt hk2
                    rw [hc, hfe] at this
                    omega)
                clear hfe
                go_wp2
                go_quiet (fail)
                go_wp2
                go_ret
                exact ⟨by rw [HN.out]; rfl, _, World.drewN_drewN _ _ _⟩
        · have u1 : decide ((48 : Int) ≤ (c : Int)) = false := decide_eq_false (by omega)
          by_cases hf48 : f = 48
          · subst hf48
            have HN : Hid (b = false) := hide (by
              cases b
              · rfl
              · exfalso
                have := (HB.out.1 rfl).2 k hlt hk2
                rw [hc, hfe] at this
                omega)
            clear hfe
            go_wp2
            go_quiet (fail)
            go_wp2
            go_ret
            exact ⟨by rw [HN.out]; rfl, _, World.drewN_drewN _ _ _⟩
          · have v1 : ((f : Int) == 48) = false := by simp; omega
            have v2 : ((f : Int) != 48) = true := by simp; omega
            by_cases hcf : c = f
            · have v3 : ((c : Int) != (f : Int)) = false := by simp; omega
              have HN : Hid (Good s k) := hide (fun h => .inr ⟨by rw [hfe]; exact hf48, by rw [hc, hfe]; exact hcf⟩)
              clear hfe
              go_wp2
              go_quiet (fail)
              go_wp2
              go_roundw
              case rel => exact ⟨k + 1, by omega, by go_num, fun j hj => (by
                rcases Nat.lt_or_ge j k with h | h
                · exact HG.out j h
                · obtain rfl : j = k := by omega
                  exact HN.out), _, rfl⟩
              case measure => (simp [intOf]) <;> omega
            · have v3 : ((c : Int) != (f : Int)) = true := by simp; omega
              have HN : Hid (b = false) := hide (by
                cases b
                · rfl
                · exfalso
                  have := (HB.out.1 rfl).2 k hlt hk2
                  rw [hc, hfe] at this
                  omega)
              clear hfe
              go_wp2
              go_quiet (fail)
              go_wp2
              go_ret
              exact ⟨by rw [HN.out]; rfl, _, World.drewN_drewN _ _ _⟩
      · have HN : Hid (b = true) := hide (HB.out.2 ⟨hs, fun j hj => HG.out j (by omega)⟩)
        obtain rfl : k = 30 := by omega
        rw [show ((30 : Nat) : Int) = 30 from rfl]
        go_wp2
        go_ret
        exact ⟨by rw [HN.out]; rfl, _, rfl⟩
  · have hbf : b = false := by
      cases b
      · rfl
      · exact absurd (hb.1 rfl).1 hs
    subst hbf
    have hsz : ((s.size : Int) != 30) = true := by simp; omega
    clear hb hs
    go_enter Tryd.func34, Tryd.ntmps34
    go_wp2
    go_ret
    exact ⟨rfl, 0, rfl⟩
end Go.Proofs.YtbhpceghgjognaaDoor.Civ
