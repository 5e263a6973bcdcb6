
/- How the votes of the statement TopVotes are opened; plain laws at the place of the new entry. -/
import Derived.Test.YtnmpoeljjajdiaaDoorTvB
import Derived.Test.YtnmpoeljjajdiaaDoorLeapQ
import Derived.Test.YtnmpoeljjajdiaaDoorOpen
import Derived.ChangeSlices
namespace Go.Proofs.YtnmpoeljjajdiaaDoor.Vot
open Go.RowKit Aid Civ Leap App Smr Opn Go.ChangeShapes Go.WideShapes
def IntsAt (w : World) (a : Option Addr) (n : Nat) (X : Nat → Int) : Prop :=
  n ≤ 9223372036854775807 ∧ (0 < n → ∃ b off, a = some ⟨b, off, none⟩ ∧ b < w.heap.size ∧ ∀ i, i < n → w.cell? ⟨b, off + i, none⟩ = some (.int .i64 (X i)))
theorem open_votes {H : Type} {enc : TypeId × Value → H} {w : World} {base : Nat} {spare : Nat → Bool} {held : Bool} {r : Reach} {b0 : Nat} {v : Value} {d : DataW H} {p : List MemPlace}
    (hv : Value.okWide Tryd.prog w r b0 37 v) (h : DataW.Trod enc Tryd.prog w base spare held 37 v d p) :
    ∃ (a : Option Addr) (n cap : Nat) (X : Nat → Int), v = .slice a n cap ∧ IntsAt w a n X := by
  obtain ⟨a0, n0, c0, rfl⟩ := okWide_slice Tryd.underlying37 hv
  obtain ⟨fuel, hf⟩ := h
  rcases Go.ChangeShapes.open_ints Tryd.underlying37 Tryd.underlying3 (by kernel_rfl) hf with ⟨e, _⟩ | ⟨a, len, cap, zs, e, _, hl, hm, hz, _, hc, hw⟩
  · simp [Value.cells] at e
    obtain ⟨rfl, rfl, rfl⟩ := e
    exact ⟨none, 0, 0, fun _ => 0, rfl, by omega, fun h0 => absurd h0 (by omega)⟩
  · simp [Value.cells] at e
    obtain ⟨rfl, rfl, rfl⟩ := e
    unfold maxLen at hm
    refine ⟨some a, n0, c0, fun i => zs.getD i 0, rfl, by omega, fun h0 => ?_⟩
    have hlz : n0 ≤ zs.length := by rw [hz]; split <;> omega
    have hs := World.cell?_spot (hc 0 (by omega))
    have hbk := World.block_lt_of_cell? w _ (hc 0 (by omega))
    obtain ⟨b, off, spot⟩ := a
    have e2 : ∀ o, spot = none → (⟨b, off, spot⟩ : Addr).add o = ⟨b, off + o, none⟩ := by
      intro o hs; subst hs; unfold Addr.add; split <;> simp_all
    have hsp : spot = none := by
      have : ((⟨b, off, spot⟩ : Addr).add 0).spot = none := hs
      simpa [Addr.add] using this
    rw [e2 _ hsp] at hbk
    subst hsp
    refine ⟨b, off, rfl, hbk, fun i hi => ?_⟩
    have q := hc i (by omega)
    rwa [e2 _ rfl] at q
theorem off_two {B X : Int} {A O : Nat → Int} {n : Nat} {ea ef : Int} (E : ExtOk B X A O n ea ef) : offC B X A O n (ea - 2) = offC B X A O n (ea - 1) := by
  unfold offC
  rw [if_pos E.c, if_pos E.c]
  have T := chkT_ok E.check
  cases n with
  | zero => rfl
  | succ m =>
    have g := T.gap (i := m) (by omega)
    rw [upd_ne _ _ (by omega), upd_at] at g
    rw [plc_succ, plc_succ, if_pos (by omega), if_pos (by omega)]
theorem new_gap {B X : Int} {A O : Nat → Int} {n : Nat} {ea ef : Int} (E : ExtOk B X A O n ea ef) {j : Nat} (hj : j < n) : upd A n ea j + 2419200 ≤ ea := by
  have T := chkT_ok E.check
  have g := T.gap2 (i := j) (j := n) hj (by omega)
  rwa [upd_at] at g
theorem off_is {B X : Int} {A O : Nat → Int} {n : Nat} {ea ef : Int} (E : ExtOk B X A O n ea ef) (u : Int) :
    offP B (upd O n (oldO B O n + ef)) (plc (upd A n ea) u (n + 1)) = offC B (max X (ea + 1)) (upd A n ea) (upd O n (oldO B O n + ef)) (n + 1) u := by
  unfold offC
  rw [if_pos E.check]
end Go.Proofs.YtnmpoeljjajdiaaDoor.Vot
