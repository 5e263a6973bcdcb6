
/- Plain law of layer 7: a valid table and a valid policy have windows that lie apart. -/
import Derived.Test.YtnmpoeljjajdiaaDoorLeapG
import Derived.Test.YtnmpoeljjajdiaaDoorSmrPlain
namespace Go.Proofs.YtnmpoeljjajdiaaDoor.Smr
open Go.RowKit Aid Civ Leap
theorem old_off (B : Int) (O : Nat → Int) (k : Nat) : oldO B O k = offP B O k := rfl
def polE (K W : Int) : Int := if K = 1 then (if W = 0 then 0 else 3) else if 2 ≤ K ∧ K ≤ 4 then (if 2 ≤ W ∧ W ≤ 172800 ∧ W % 2 = 0 then 0 else 3) else 8
noncomputable def chkS (B X : Int) (A O : Nat → Int) (n : Nat) (K W : Int) : Int := if chkT B X A O n = 0 then polE K W else chkT B X A O n
def KW (K W : Int) : Prop := (K = 1 ∧ W = 0) ∨ ((K = 2 ∨ K = 3 ∨ K = 4) ∧ 2 ≤ W ∧ W ≤ 172800 ∧ W % 2 = 0)
theorem polE_ok {K W : Int} (h : polE K W = 0) : KW K W := by
  unfold polE at h
  unfold KW
  split at h
  · split at h <;> omega
  · split at h
    · split at h <;> omega
    · omega
theorem chkS_ok {B X : Int} {A O : Nat → Int} {n : Nat} {K W : Int} (h : chkS B X A O n K W = 0) : Tab B X A O n ∧ KW K W := by
  unfold chkS at h
  split at h
  · rename_i h1; exact ⟨chkT_ok h1, polE_ok h⟩
  · rename_i h1; exact absurd h h1
theorem sep_of {B X : Int} {A O : Nat → Int} {n : Nat} (T : Tab B X A O n) {K W : Int} (h : KW K W) (K' : Int) : Sep (frm K' W A O) (W * 1000000000) n := by
  intro i hi
  have g := T.gap hi
  have o := T.next hi
  have hw : 0 ≤ W ∧ W ≤ 172800 := by unfold KW at h; omega
  unfold frm
  omega
theorem pol_of {B X : Int} {A O : Nat → Int} {n : Nat} (T : Tab B X A O n) {K W : Int} (h : KW K W) : Pol B W O (frm K W A O) (W * 1000000000) n :=
  ⟨sep_of T h K, rfl, by unfold KW at h; omega, T.one⟩
theorem frm_step (A O : Nat → Int) (i : Nat) : frm 1 0 A O i = (A i + O i) * 1000000000 := by simp [frm, shf]
end Go.Proofs.YtnmpoeljjajdiaaDoor.Smr
