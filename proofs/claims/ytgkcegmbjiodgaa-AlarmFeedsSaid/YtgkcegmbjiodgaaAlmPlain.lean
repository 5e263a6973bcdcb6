
/- Plain laws of layer 49 (alarms): the machine. -/
import Init
namespace Go.Proofs.Ytgkcegmbjiodgaa.Alm
structure Conf where
  hi : Int
  lo : Int
  hold : Int
  clr : Int
  sil : Int
structure St where
  last : Int
  high : Int
  low : Int
  raised : Bool
  since : Int
  noti : Int
  raises : Int
  clears : Int
  repeats : Int
def ext (run : Int) (b : Bool) : Int := if b = true then run + 1 else 0
def chk (c : Conf) : Int :=
  if c.hi < -8000000000000000000 ∨ 8000000000000000000 < c.hi ∨ c.lo < -8000000000000000000 ∨ 8000000000000000000 < c.lo ∨ c.hold < 1 ∨ 1000 < c.hold ∨ c.clr < 1 ∨ 1000 < c.clr ∨ c.sil < 0 ∨ 1125899906842624 < c.sil then 3
  else if c.hi < c.lo then 12 else 0
structure COk (c : Conf) : Prop where
  h1 : -8000000000000000000 ≤ c.hi
  h2 : c.hi ≤ 8000000000000000000
  l1 : -8000000000000000000 ≤ c.lo
  l2 : c.lo ≤ 8000000000000000000
  hold1 : 1 ≤ c.hold
  hold2 : c.hold ≤ 1000
  clr1 : 1 ≤ c.clr
  clr2 : c.clr ≤ 1000
  sil1 : 0 ≤ c.sil
  sil2 : c.sil ≤ 1125899906842624
  lh : c.lo ≤ c.hi
theorem chk_ok {c : Conf} (h : chk c = 0) : COk c := by
  unfold chk at h
  split at h
  · omega
  · split at h
    · omega
    · constructor <;> omega
theorem ok_chk {c : Conf} (k : COk c) : chk c = 0 := by
  obtain ⟨_, _, _, _, _, _, _, _, _, _, _⟩ := k
  unfold chk
  rw [if_neg (by omega), if_neg (by omega)]
def St.new : St := ⟨0, 0, 0, false, 0, 0, 0, 0, 0⟩
def inside (s : St) (at_ : Int) : Prop := 0 ≤ at_ ∧ at_ ≤ 1125899906842624 ∧ s.last ≤ at_
instance (s : St) (at_ : Int) : Decidable (inside s at_) := by unfold inside; exact inferInstance
def HH (c : Conf) (s : St) (v : Int) : Int := ext s.high (decide (c.hi < v))
def LL (c : Conf) (s : St) (v : Int) : Int := ext s.low (decide (v < c.lo))
/-- what becomes of a sample at a right time: 1 raise, 2 clear, 3 repeat, 0 nothing -/
def kind (c : Conf) (s : St) (at_ v : Int) : Int :=
  if s.raised = false ∧ c.hold ≤ HH c s v then 1
  else if s.raised = true ∧ c.clr ≤ LL c s v then 2
  else if s.raised = true ∧ c.hi < v ∧ c.sil ≤ at_ - s.noti then 3
  else 0
def next (c : Conf) (s : St) (at_ v : Int) : St :=
  if kind c s at_ v = 1 then ⟨at_, 0, 0, true, at_, at_, s.raises + 1, s.clears, s.repeats⟩
  else if kind c s at_ v = 2 then ⟨at_, 0, 0, false, 0, at_, s.raises, s.clears + 1, s.repeats⟩
  else if kind c s at_ v = 3 then ⟨at_, HH c s v, LL c s v, s.raised, s.since, at_, s.raises, s.clears, s.repeats + 1⟩
  else ⟨at_, HH c s v, LL c s v, s.raised, s.since, s.noti, s.raises, s.clears, s.repeats⟩
def err (s : St) (at_ : Int) : Int := if at_ < 0 ∨ 1125899906842624 < at_ then 3 else if at_ < s.last then 12 else 0
def feedS (c : Conf) (s : St) (at_ v : Int) : St := if err s at_ = 0 then next c s at_ v else s
def feedN (c : Conf) (s : St) (at_ v : Int) : Int := if err s at_ = 0 then kind c s at_ v else 0
/-- sizes after at most k samples -/
structure Sz (s : St) (k : Nat) : Prop where
  last1 : 0 ≤ s.last
  last2 : s.last ≤ 1125899906842624
  high1 : 0 ≤ s.high
  high2 : s.high ≤ k
  low1 : 0 ≤ s.low
  low2 : s.low ≤ k
  noti1 : 0 ≤ s.noti
  noti2 : s.noti ≤ s.last
  ra1 : 0 ≤ s.raises
  ra2 : s.raises ≤ k
  cl1 : 0 ≤ s.clears
  cl2 : s.clears ≤ k
  re1 : 0 ≤ s.repeats
  re2 : s.repeats ≤ k
theorem Sz.new : Sz St.new 0 := by constructor <;> simp [St.new]
theorem ext_bd {r : Int} {b : Bool} {k : Nat} (h : 0 ≤ r ∧ r ≤ k) : 0 ≤ ext r b ∧ ext r b ≤ ((k + 1 : Nat) : Int) := by
  unfold ext; split <;> omega
theorem Sz.feed {c : Conf} {s : St} {at_ v : Int} {k : Nat} (h : Sz s k) : Sz (feedS c s at_ v) (k + 1) := by
  obtain ⟨a1, a2, a3, a4, a5, a6, a7, a8, a9, a10, a11, a12, a13, a14⟩ := h
  have e1 := ext_bd (b := decide (c.hi < v)) (k := k) ⟨a3, a4⟩
  have e2 := ext_bd (b := decide (v < c.lo)) (k := k) ⟨a5, a6⟩
  unfold feedS
  by_cases he : err s at_ = 0
  · rw [if_pos he]
    have hi : 0 ≤ at_ ∧ at_ ≤ 1125899906842624 ∧ s.last ≤ at_ := by
      unfold err at he
      split at he
      · omega
      · split at he <;> omega
    unfold next HH LL
    split
    · constructor <;> simp <;> omega
    · split
      · constructor <;> simp <;> omega
      · split
        · constructor <;> simp <;> omega
        · constructor <;> simp <;> omega
  · rw [if_neg he]
    constructor <;> omega
end Go.Proofs.Ytgkcegmbjiodgaa.Alm
