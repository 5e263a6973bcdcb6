
/- The contract of the law's awake (layer 54). -/
import Derived.Test.YtnmpoeljjajdiaaDoorVotK
namespace Go.Proofs.YtnmpoeljjajdiaaDoor.Vot
open Go.RowKit Aid Civ Leap App
def exI (k : Nat) : Int := [1, 1, 0].getD k 0
def exS : Nat → Vt
  | 0 => .new 3
  | k + 1 => (exS k).next (k : Int) (exI k) 2287000000
theorem ex_inv (k : Nat) : Inv (exS k) := by
  induction k with
  | zero => exact Inv.new (by decide) (by decide)
  | succ k ih => exact ih.next _ _ _
theorem ex_v : ∀ k, k < 3 → vErr (exS k) (k : Int) (exI k) 2287000000 = 0 := by decide +kernel
theorem ex_cv : cv (exS 3) 2287000000 0 = 1 ∧ cv (exS 3) 2287000000 1 = 2 ∧ cv (exS 3) 2287000000 2 = 0 := by decide +kernel
theorem ex_dec : dec (exS 3) 2287000000 = 1 ∧ dec (exS 3) 2287086400 = 3 := by decide +kernel
theorem ex_date : dateOf 26469 = (1972, 6, 21) := dateOf_eq (by decide) (by constructor <;> decide)
theorem ex_nx : nxV 2287000000 = 2287785600 ∧ nxB 2287000000 = true := by
  have e : dateOf (2287000000 / 86400) = (1972, 6, 21) := ex_date
  unfold nxV nxB nxY nxM
  rw [e]
  decide +kernel
theorem ex_arm : armA (exS 3) 2287000000 = 2287785600 ∧ armO (exS 3) 2287000000 = 1 ∧ armB (exS 3) 2287000000 = true := by
  obtain ⟨a, b, c⟩ := arm_yes (.inl ex_dec.1) ex_nx.2
  exact ⟨a.trans ex_nx.1, b.trans (by rw [ex_dec.1]; rfl), c⟩
theorem ex_date2 : dateOf 26479 = (1972, 7, 1) := dateOf_eq (by decide) (by constructor <;> decide)
theorem ex_beg : begB 2287785600 = true := beg_intro (by omega) (by rw [show (2287785600 : Int) / 86400 = 26479 by decide, ex_date2]) (by decide)
theorem ex_chk : chkT 10 0 (fun _ => 0) (fun _ => 0) 0 = 0 := by
  unfold chkT
  rw [if_neg (by omega), if_pos (by decide)]
  rfl
theorem ex_ext : ExtOk 10 0 (fun _ => 0) (fun _ => 0) 0 2287785600 1 := ⟨ex_chk, ex_beg, fun q => absurd q (by omega), .inl rfl, by decide, by omega⟩
theorem ex_l : ∀ k, k < 3 → (#[.int .i64 1, .int .i64 1, .int .i64 0] : Array Value)[k]? = some (.int .i64 (exI k)) := by
  intro k hk
  match k, hk with
  | 0, _ | 1, _ | 2, _ => rfl
theorem grown2 {a b w : World} {g : Nat} (h : a.grownBy b (some g)) (k : b.grownBy w (some g)) : a.grownBy w (some g) :=
  ⟨k.os.trans h.os, k.tape.trans h.tape, k.output.trans h.output, Nat.le_trans h.size k.size, fun i hi hne => (k.block i (Nat.lt_of_lt_of_le hi h.size) hne).trans (h.block i hi hne)⟩
theorem PAt.step {w w' : World} {g : Nat} {s : Vt} (h : PAt w g s) (hb : Below w.heap.size w w') : PAt w' g s := RowAt.step h hb
end Go.Proofs.YtnmpoeljjajdiaaDoor.Vot
