/- Layer 5: digits of the reference. -/
import Derived.Test.YtbhpceghgjognaaDoorCivI
namespace Go.Proofs.YtbhpceghgjognaaDoor.Civ
open Go.RowKit Aid
theorem enc_all : ∀ d : Fin 10, Utf8.encode (48 + (d.val : Int)) = (⟨[UInt8.ofNat (48 + d.val)].toArray⟩ : ByteArray) := by decide +kernel
set_option maxRecDepth 100000 in
set_option maxHeartbeats 1600000 in
theorem digits_any (n k : Nat) (hn : n ≤ 999999999) (hk9 : k ≤ 9) (w : World) :
    Calls Tryd.prog 38 #[.int .i64 n, .int .i64 k] w fun e w' => e = .returned (.string ⟨(dgt k n).toArray⟩) ∧ w = w' := by
  go_enter Tryd.func38, Tryd.ntmps38
  go_wp2
  go_loopw [0, 5, 6] (fun a s j wr => ∃ i : Nat, i ≤ k ∧ a = .int .i64 ((n / 10 ^ i : Nat) : Int) ∧ s = .string ⟨(dgt i n).toArray⟩ ∧ j = .int .i64 i ∧ w = wr) (fun _ _ j _ => k - (intOf j).toNat)
  case atStart => exact ⟨0, by omega, by simp, rfl, rfl, rfl⟩
  case round =>
    obtain ⟨i, hi, rfl, rfl, rfl, rfl⟩ := hrel
    by_cases hlt : i < k
    · have hq : n / 10 ^ i ≤ n := Nat.div_le_self _ _
      have e1 := dgt_cons i n
      have e2 : n / 10 ^ (i + 1) = n / 10 ^ i / 10 := by rw [Nat.pow_succ, Nat.div_div_eq_div_mul]
      have hl := dgt_length i n
      have HE := hide (And.intro e1 e2)
      generalize n / 10 ^ i = q at *
      generalize hd : dgt i n = L at *
      clear e1 e2 hd
      obtain ⟨d, hd⟩ : ∃ d, d = q % 10 := ⟨_, rfl⟩
      obtain ⟨q', hq'⟩ : ∃ q', q' = q / 10 := ⟨_, rfl⟩
      have t2 : (q : Int) / 10 = (q' : Int) := by omega
      have HQ := hide (And.intro hd hq')
      have hb : q ≤ 999999999 := by omega
      have t1 : (q : Int) % 10 = (d : Int) := by omega
      have hd10 : d < 10 := by omega
      have hi9 : i < 9 := by omega
      clear hd hq' hq hk9 hn
      have t4 : Utf8.encode (48 + (d : Int)) = (⟨[UInt8.ofNat (48 + d)].toArray⟩ : ByteArray) := enc_all ⟨d, hd10⟩
      go_wp2
      go_roundw
      case rel => exact ⟨i + 1, by omega, by rw [HE.out.2, ← HQ.out.2], by rw [HE.out.1, ← HQ.out.1, bs_append, UInt8.ofNat_add]; rfl, by go_num, by first | rfl | trivial⟩
      case measure => (simp [intOf]) <;> omega
    · obtain rfl : i = k := by omega
      go_wp2
      go_ret
      exact ⟨rfl, rfl⟩
end Go.Proofs.YtbhpceghgjognaaDoor.Civ
