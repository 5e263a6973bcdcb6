
/- The contracts of layer 6: offset, change, UTC, TAI. -/
import Derived.Test.YtbekfofakpbhiaaDoorLeapD
import Derived.Test.YtbekfofakpbhiaaDoorSmrTab
namespace Go.Proofs.YtbekfofakpbhiaaDoor.Leap
open Go.RowKit Aid Civ Smr
def gS (A O : Nat → Int) (i : Nat) : Int := A i + O i
set_option maxRecDepth 100000 in
set_option maxHeartbeats 1600000 in
theorem offset_any (B X : Int) (a : Option Addr) (n cap : Nat) (A O : Nat → Int) (u : Int) (w : World) (hr : Ents w a n A O) :
    Calls Tryd.prog 36 #[.agg #[.int .i64 B, .int .i64 X, .slice a n cap], .int .i64 u] w fun e w' => e = .returned (.int .i64 (offP B O (plc A u n))) ∧ Below w.heap.size w w' := by
  have hn := hr.1
  have HR := hide hr
  clear hr
  go_enter Tryd.func36, Tryd.ntmps36
  go_wp2
  go_loopw [5, 13] (fun o i wr => ∃ k : Nat, k ≤ n ∧ i = .int .i64 k ∧ o = .int .i64 (offP B O (plc A u k)) ∧ Below (w.heap.size + 1) (w.alloc (.cells #[.int .i64 B, .int .i64 X, .slice a n cap] 43)) wr) (fun _ i _ => n - (intOf i).toNat)
  case atStart => exact ⟨0, by omega, rfl, by simp [plc, offP], Below.refl _ _⟩
  case round =>
    obtain ⟨k, hk, rfl, rfl, hb⟩ := hrel
    have HB := hide hb
    obtain ⟨c0, c1, c2, hs⟩ := cells3 hb
    have hbw := boxB hb
    clear hb
    by_cases hlt' : k < n
    · obtain ⟨b, off, rfl, hlt, hc⟩ := HR.out.at_ (by omega)
      have hc0 : wr.cell? ⟨b, off + k * 2, none⟩ = some (.int .i64 (A k)) := (hbw.cell (p := ⟨b, off + k * 2, none⟩) hlt).trans (hc k hlt').1
      have hc1 : wr.cell? ⟨b, off + k * 2 + 1, none⟩ = some (.int .i64 (O k)) := (hbw.cell (p := ⟨b, off + k * 2 + 1, none⟩) hlt).trans (hc k hlt').2
      have hbl : b < wr.heap.size := by omega
      have HP : Hid (plc A u (k + 1) = if A k ≤ u then k + 1 else plc A u k) := hide rfl
      have HB2 := hide (HB.out.alloc (by omega) (.cells #[.int .i64 (A k), .int .i64 (O k)] 36))
      clear hc hbw hlt
      by_cases hle : A k ≤ u
      · go_wp2
        go_roundw
        case rel => exact ⟨k + 1, by omega, by go_num, by rw [HP.out, if_pos hle, offP_succ], HB2.out⟩
        case measure => simp [intOf]; omega
      · go_wp2
        go_roundw
        case rel => exact ⟨k + 1, by omega, by go_num, by rw [HP.out, if_neg (by omega)], HB2.out⟩
        case measure => simp [intOf]; omega
    · obtain rfl : k = n := by omega
      go_wp2
      go_ret
      exact ⟨rfl, hbw⟩
def exB (B : Int) (A O : Nat → Int) (t : Int) : Nat → Bool
  | 0 => false
  | k + 1 => exB B A O t k || (decide (t = gS A O k - 1) && decide (O k - oldO B O k = 1))
end Go.Proofs.YtbekfofakpbhiaaDoor.Leap
