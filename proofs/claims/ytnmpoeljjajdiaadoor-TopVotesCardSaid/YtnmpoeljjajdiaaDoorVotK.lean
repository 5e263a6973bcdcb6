
/- The contracts of layer 54: Extend whole, in both packages; Same of equal tables. -/
import Derived.Test.YtnmpoeljjajdiaaDoorVotG
import Derived.Test.YtnmpoeljjajdiaaDoorVotH
import Derived.Test.YtnmpoeljjajdiaaDoorVotI
import Derived.Test.YtnmpoeljjajdiaaDoorVotJ
namespace Go.Proofs.YtnmpoeljjajdiaaDoor.Vot
open Go.RowKit Aid Civ Leap App
open Classical in
noncomputable def eB (B X : Int) (A O : Nat → Int) (n : Nat) (ea ef : Int) : Int := if extE B X A O n ea ef = 0 then B else 0
open Classical in
noncomputable def eX (B X : Int) (A O : Nat → Int) (n : Nat) (ea ef : Int) : Int := if extE B X A O n ea ef = 0 then max X (ea + 1) else 0
noncomputable def eN (B X : Int) (A O : Nat → Int) (n : Nat) (ea ef : Int) : Nat := if extE B X A O n ea ef = 0 then n + 1 else 0
/-- what Extend gives -/
def ExtAny (B X : Int) (A O : Nat → Int) (n : Nat) (ea ef : Int) (e : Ending) (w' : World) : Prop :=
  ∃ p c, e = .returned (.tuple #[.agg #[.int .i64 (eB B X A O n ea ef), .int .i64 (eX B X A O n ea ef), .slice p (eN B X A O n ea ef) c], .int .i64 (extE B X A O n ea ef)]) ∧ Ents w' p (eN B X A O n ea ef) (upd A n ea) (upd O n (oldO B O n + ef))
theorem ext_bad {B X : Int} {A O : Nat → Int} {n : Nat} {ea ef v : Int} {e : Ending} {w w' : World} (he : extE B X A O n ea ef = v) (hv : v ≠ 0) (h : e = .returned (.tuple #[.agg #[.int .i64 0, .int .i64 0, .slice none 0 0], .int .i64 v]) ∧ Below w.heap.size w w') : ExtAny B X A O n ea ef e w' ∧ Below w.heap.size w w' := by
  refine ⟨⟨none, 0, ?_, ?_⟩, h.2⟩
  · unfold eB eX eN
    rw [he, if_neg hv, if_neg hv, if_neg hv]
    exact h.1
  · unfold eN
    rw [he, if_neg hv]
    exact ⟨by omega, fun q => absurd q (by omega)⟩
theorem ext_good {B X : Int} {A O : Nat → Int} {n : Nat} {ea ef : Int} {e : Ending} {w w' : World} (E : ExtOk B X A O n ea ef) (h : ExtIs B X A O n ea ef e w' ∧ Below w.heap.size w w') : ExtAny B X A O n ea ef e w' ∧ Below w.heap.size w w' := by
  obtain ⟨⟨p, c, h1, h2⟩, h3⟩ := h
  refine ⟨⟨p, c, ?_, ?_⟩, h3⟩
  · unfold eB eX eN
    rw [E.zero, if_pos rfl, if_pos rfl, if_pos rfl]
    exact h1
  · unfold eN
    rw [E.zero, if_pos rfl]
    exact h2
theorem old0 {B : Int} {O : Nat → Int} {n : Nat} (h : n = 0) : oldO B O n = B := by unfold oldO; rw [if_pos h]
theorem oldS {B : Int} {O : Nat → Int} {n : Nat} (h : 0 < n) : oldO B O n = O (n - 1) := by unfold oldO; rw [if_neg (by omega)]

theorem PExt_any (B X : Int) (a : Option Addr) (n cap : Nat) (A O : Nat → Int) (ea ef : Int) (w : World) (l : Laid w) (hr : Ents w a n A O) :
    Calls Tryd.prog 16 #[.agg #[.int .i64 B, .int .i64 X, .slice a n cap], .agg #[.int .i64 ea, .int .i64 ef]] w fun e w' => ExtAny B X A O n ea ef e w' ∧ Below w.heap.size w w' := by
  by_cases h1 : chkT B X A O n = 0
  · by_cases h2 : begB ea = true
    · by_cases h3 : 0 < n ∧ ea ≤ A (n - 1)
      · exact (PExt_ord B X a n cap A O ea ef w l hr h1 h2 h3.1 h3.2).mono fun e w' q => ext_bad (by unfold extE; rw [if_neg (fun k => k h1), if_neg (by rw [h2]; decide), if_pos h3]) (by decide) q
      · have T := chkT_ok h1
        have hn64 : n ≤ 64 := by
          apply Classical.byContradiction
          intro q
          unfold chkT at h1
          rw [if_pos (by omega)] at h1
          exact absurd h1 (by decide)
        have tb := T.b
        by_cases h4 : (ef = 1 ∨ ef = -1) ∧ -1000 ≤ oldO B O n + ef ∧ oldO B O n + ef ≤ 1000
        · have e4 : ∀ v, (if ¬ ((ef = 1 ∨ ef = -1) ∧ -1000 ≤ oldO B O n + ef ∧ oldO B O n + ef ≤ 1000) then (3 : Int) else v) = v := fun v => if_neg (fun k => k h4)
          by_cases h5 : 64 ≤ n
          · have e5 : extE B X A O n ea ef = 6 := by unfold extE; rw [if_neg (fun k => k h1), if_neg (by rw [h2]; decide), if_neg h3, e4, if_pos h5]
            have hlt : A (n - 1) < ea := by
              apply Classical.byContradiction
              intro q
              exact h3 ⟨by omega, by omega⟩
            have h4o := h4.2
            rw [oldS (by omega)] at h4o
            rcases h4.1 with rfl | rfl
            · exact (PExt_longp B X a n cap A O ea w l hr h1 h2 (by omega) hlt h4o (by omega)).mono fun e w' q => ext_bad e5 (by decide) q
            · exact (PExt_longm B X a n cap A O ea w l hr h1 h2 (by omega) hlt h4o (by omega)).mono fun e w' q => ext_bad e5 (by decide) q
          · have E : ExtOk B X A O n ea ef := ⟨h1, h2, fun q => by
              apply Classical.byContradiction
              intro k
              exact h3 ⟨q, by omega⟩, h4.1, h4.2, by omega⟩
            rcases h4.1 with rfl | rfl
            · by_cases h0 : n = 0
              · exact (PExt_okzp B X a n cap A O ea w l hr E h0).mono fun e w' q => ext_good E q
              · exact (PExt_oknp B X a n cap A O ea w l hr E (by omega)).mono fun e w' q => ext_good E q
            · by_cases h0 : n = 0
              · exact (PExt_okzm B X a n cap A O ea w l hr E h0).mono fun e w' q => ext_good E q
              · exact (PExt_oknm B X a n cap A O ea w l hr E (by omega)).mono fun e w' q => ext_good E q
        · have e4 : extE B X A O n ea ef = 3 := by unfold extE; rw [if_neg (fun k => k h1), if_neg (by rw [h2]; decide), if_neg h3, if_pos h4]
          by_cases h0 : n = 0
          · by_cases hf : ef = 1 ∨ ef = -1
            · have o0 := old0 (B := B) (O := O) h0
              rcases hf with rfl | rfl
              · have : 1000 < B + 1 := by
                  apply Classical.byContradiction
                  intro k
                  exact h4 ⟨.inl rfl, by omega, by omega⟩
                exact (PExt_rzp0 B X a n cap A O ea w l hr h1 h2 h0 this).mono fun e w' q => ext_bad e4 (by decide) q
              · have : B + (-1) < -1000 := by
                  apply Classical.byContradiction
                  intro k
                  exact h4 ⟨.inr rfl, by omega, by omega⟩
                exact (PExt_rzm1 B X a n cap A O ea w l hr h1 h2 h0 this).mono fun e w' q => ext_bad e4 (by decide) q
            · exact (PExt_fz B X a n cap A O ea ef w l hr h1 h2 h0 hf).mono fun e w' q => ext_bad e4 (by decide) q
          · have hlt : A (n - 1) < ea := by
              apply Classical.byContradiction
              intro q
              exact h3 ⟨by omega, by omega⟩
            by_cases hf : ef = 1 ∨ ef = -1
            · have o0 := oldS (B := B) (O := O) (show 0 < n by omega)
              have tof := T.o (n - 1) (by omega)
              rcases hf with rfl | rfl
              · have : 1000 < O (n - 1) + 1 := by
                  apply Classical.byContradiction
                  intro k
                  exact h4 ⟨.inl rfl, by omega, by omega⟩
                exact (PExt_rnp0 B X a n cap A O ea w l hr h1 h2 (by omega) hlt this).mono fun e w' q => ext_bad e4 (by decide) q
              · have : O (n - 1) + (-1) < -1000 := by
                  apply Classical.byContradiction
                  intro k
                  exact h4 ⟨.inr rfl, by omega, by omega⟩
                exact (PExt_rnm1 B X a n cap A O ea w l hr h1 h2 (by omega) hlt this).mono fun e w' q => ext_bad e4 (by decide) q
            · exact (PExt_fn B X a n cap A O ea ef w l hr h1 h2 (by omega) hlt hf).mono fun e w' q => ext_bad e4 (by decide) q
    · have h2 : begB ea = false := by cases q : begB ea <;> simp_all
      exact (PExt_mon B X a n cap A O ea ef w l hr h1 h2).mono fun e w' q => ext_bad (by unfold extE; rw [if_neg (fun k => k h1), if_pos h2]) (by decide) q
  · exact (PExt_chk B X a n cap A O ea ef w l hr h1).mono fun e w' q => ext_bad (by unfold extE; rw [if_pos h1]) h1 q
end Go.Proofs.YtnmpoeljjajdiaaDoor.Vot
