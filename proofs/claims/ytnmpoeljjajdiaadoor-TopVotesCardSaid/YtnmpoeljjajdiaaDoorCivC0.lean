
/- When a civil time is valid. -/
import Derived.Test.YtnmpoeljjajdiaaDoorCivB
namespace Go.Proofs.YtnmpoeljjajdiaaDoor.Civ
open Go.RowKit Aid
structure Valid (y m d h mi s n : Int) : Prop where
  y1 : 1600 ≤ y
  y2 : y ≤ 2200
  m1 : 1 ≤ m
  m2 : m ≤ 12
  d1 : 1 ≤ d
  d2 : d ≤ md y m
  h1 : 0 ≤ h
  h2 : h ≤ 23
  i1 : 0 ≤ mi
  i2 : mi ≤ 59
  s1 : 0 ≤ s
  s2 : s ≤ 59
  n1 : 0 ≤ n
  n2 : n ≤ 999999999
def okB (y m d h mi s n : Int) : Bool := inB y 1600 2200 && inB m 1 12 && inB d 1 (md y m) && inB h 0 23 && inB mi 0 59 && inB s 0 59 && inB n 0 999999999
def chkC (y m d h mi s n : Int) : Int := if okB y m d h mi s n = true then 0 else 3
theorem okB_valid {y m d h mi s n : Int} : okB y m d h mi s n = true ↔ Valid y m d h mi s n := by
  unfold okB inB
  simp only [Bool.and_eq_true, decide_eq_true_eq]
  constructor
  · rintro ⟨⟨⟨⟨⟨⟨a, b⟩, c⟩, e⟩, f⟩, g⟩, k⟩
    exact ⟨a.1, a.2, b.1, b.2, c.1, c.2, e.1, e.2, f.1, f.2, g.1, g.2, k.1, k.2⟩
  · rintro ⟨a1, a2, b1, b2, c1, c2, e1, e2, f1, f2, g1, g2, k1, k2⟩
    exact ⟨⟨⟨⟨⟨⟨⟨a1, a2⟩, ⟨b1, b2⟩⟩, ⟨c1, c2⟩⟩, ⟨e1, e2⟩⟩, ⟨f1, f2⟩⟩, ⟨g1, g2⟩⟩, ⟨k1, k2⟩⟩
theorem chkC_ok {y m d h mi s n : Int} (k : chkC y m d h mi s n = 0) : Valid y m d h mi s n := by
  unfold chkC at k
  split at k
  · exact okB_valid.1 (by assumption)
  · cases k
theorem chkC_of {y m d h mi s n : Int} (k : Valid y m d h mi s n) : chkC y m d h mi s n = 0 := by unfold chkC; rw [if_pos (okB_valid.2 k)]
theorem inB_t {a lo hi : Int} (h : lo ≤ a ∧ a ≤ hi) : inB a lo hi = true := by unfold inB; simpa using h
theorem inB_f {a lo hi : Int} (h : ¬ (lo ≤ a ∧ a ≤ hi)) : inB a lo hi = false := by unfold inB; simpa using h
theorem quietC {P : Program} {f : FuncId} {args : Array Value} {w : World} {n : Nat} {v : Value} (h : Calls P f args (w.drewN n) fun e w' => e = .returned v ∧ w.drewN n = w') : Calls P f args (w.drewN n) fun e w'' => e = .returned v ∧ ∃ m, w'' = w.drewN m :=
  h.mono fun _ _ ⟨he, hm⟩ => ⟨he, n, hm.symm⟩
end Go.Proofs.YtnmpoeljjajdiaaDoor.Civ
