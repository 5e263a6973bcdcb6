
/- Plain laws of layer 54: the next month's start; the offsets of an extended table. The contract of leap.Offset. -/
import Derived.Test.YtnmpoeljjajdiaaDoorVotL
import Derived.Test.YtnmpoeljjajdiaaDoorTopA
namespace Go.Proofs.YtnmpoeljjajdiaaDoor.Vot
open Go.RowKit Aid Civ Leap App Smr
theorem nx_bd {u : Int} (h : nxB u = true) : (-8000000000 ≤ u ∧ u ≤ 8000000000) ∧ u < nxV u ∧ nxV u ≤ u + 2678400 := by
  by_cases hu : -8000000000 ≤ u ∧ u ≤ 8000000000
  · refine ⟨hu, ?_⟩
    obtain ⟨e1, e2⟩ := nxV_in hu
    rw [e2] at h
    rw [e1]
    have D := dateOf_spec (n := u / 86400) (by unfold ys; omega)
    have hs : secV (nxY u) (nxM u) 1 0 0 0 0 = secN (nxY u) (nxM u) 1 0 0 0 := by
      unfold secE at h
      unfold secV
      by_cases q : chkC (nxY u) (nxM u) 1 0 0 0 0 = 0 ∧ -8000000000 ≤ secN (nxY u) (nxM u) 1 0 0 0 ∧ secN (nxY u) (nxM u) 1 0 0 0 ≤ 8000000000
      · rw [if_pos q]
      · rw [if_neg q] at h; exact absurd h (by decide)
    rw [hs]
    unfold nxY nxM
    generalize dateOf (u / 86400) = t at D
    obtain ⟨y, m, d⟩ := t
    dsimp only at D ⊢
    have d1 := D.d1
    have d2 := D.d2
    have d3 := D.d3
    have m1 := D.m1
    have m2 := D.m2
    have mb := md_bd y (m : Int)
    by_cases hm : m = 12
    · rw [if_pos hm, if_pos hm]
      unfold secN
      have e : ms y 13 = ms y 12 + md y 12 := rfl
      rw [ms_13] at e
      rw [ys_next, show ((1 : Int).toNat) = 1 from rfl, ms_1]
      subst hm
      have : md y ((12 : Nat) : Int) = md y 12 := rfl
      omega
    · rw [if_neg hm, if_neg hm]
      unfold secN
      rw [show ((m : Int) + 1).toNat = m + 1 by omega]
      have e : ms y (m + 1) = ms y m + md y (m : Int) := rfl
      omega
  · rw [(nxV_out hu).2] at h
    cases h
/-- one voter's vote is the decision -/
theorem dec_one {k u : Int} (hk : k = 1 ∨ k = 2) (hu : -8000000000 ≤ u ∧ u ≤ 8000000000) : dec ((Vt.new 1).next 0 k u) u = k := by
  have e : (Vt.new 1).next 0 k u = (Vt.new 1).put 0 k u := (vErr_fine (by rcases hk with rfl | rfl <;> exact ⟨by decide, by decide, by decide, by decide, hu.1, hu.2⟩) (fun q => by cases q.1)).2
  rw [e]
  have hlt : u < u + 86400 := by omega
  have c : ∀ j, cv ((Vt.new 1).put 0 k u) u j = if k = j then 1 else 0 := by
    intro j
    unfold cv
    rw [if_pos hu]
    by_cases h : k = j
    · simp [cnt, isV, Vt.put, Vt.new, upd, h, hlt]
    · have h2 : (k == j) = false := by simpa using h
      simp [cnt, isV, Vt.put, Vt.new, upd, h, h2, hlt]
  unfold dec
  rw [c, c, c]
  rcases hk with rfl | rfl <;> rfl
theorem arm_bd {s : Vt} {u : Int} (h : armB s u = true) : (-8000000000 ≤ u ∧ u ≤ 8000000000) ∧ (dec s u = 1 ∨ dec s u = 2) ∧ armO s u = 3 - 2 * dec s u ∧ u < armA s u ∧ armA s u ≤ u + 2678400 := by
  have hh := h
  unfold armB at h
  rw [Bool.and_eq_true, Bool.or_eq_true, beq_iff_eq, beq_iff_eq] at h
  obtain ⟨q1, q2, q3⟩ := nx_bd h.2
  obtain ⟨a1, a2, _⟩ := arm_yes h.1 h.2
  refine ⟨q1, h.1, a2, ?_, ?_⟩
  · rw [a1]; exact q2
  · rw [a1]; exact q3
/-- the offset at a second -/
noncomputable def offC (B X : Int) (A O : Nat → Int) (n : Nat) (u : Int) : Int := if chkT B X A O n = 0 then offP B O (plc A u n) else 0
theorem plc_succ (F : Nat → Int) (t : Int) (k : Nat) : plc F t (k + 1) = if F k ≤ t then k + 1 else plc F t k := rfl
theorem plc_congr {F G : Nat → Int} {t : Int} {n : Nat} (h : ∀ i, i < n → F i = G i) : plc F t n = plc G t n := by
  induction n with
  | zero => rfl
  | succ n ih => rw [plc_succ, plc_succ, h n (by omega), ih fun i hi => h i (by omega)]
theorem plc_le (F : Nat → Int) (t : Int) (n : Nat) : plc F t n ≤ n := (plc_spec F t n).1
theorem offP_upd {B v : Int} {O : Nat → Int} {n p : Nat} (h : p ≤ n) : offP B (upd O n v) p = offP B O p := by
  unfold offP
  by_cases h0 : p = 0
  · rw [if_pos h0, if_pos h0]
  · rw [if_neg h0, if_neg h0, upd_ne _ _ (by omega)]
theorem off_before {B X : Int} {A O : Nat → Int} {n : Nat} {ea ef u : Int} (E : ExtOk B X A O n ea ef) (h : u < ea) :
    offC B (max X (ea + 1)) (upd A n ea) (upd O n (oldO B O n + ef)) (n + 1) u = offC B X A O n u := by
  unfold offC
  rw [if_pos E.check, if_pos E.c, plc_succ, upd_at, if_neg (by omega), plc_congr (G := A) (fun i hi => upd_ne _ _ (by omega)), offP_upd (plc_le _ _ _)]
theorem off_after {B X : Int} {A O : Nat → Int} {n : Nat} {ea ef : Int} (E : ExtOk B X A O n ea ef) :
    offC B (max X (ea + 1)) (upd A n ea) (upd O n (oldO B O n + ef)) (n + 1) ea = offC B X A O n (ea - 1) + ef := by
  unfold offC
  rw [if_pos E.check, if_pos E.c, plc_succ, upd_at, if_pos (Int.le_refl _)]
  have e : plc A (ea - 1) n = n := by
    cases n with
    | zero => rfl
    | succ m =>
      have := E.i (by omega)
      rw [Nat.add_sub_cancel] at this
      rw [plc_succ, if_pos (by omega)]
  rw [e]
  unfold offP
  rw [if_neg (by omega), Nat.add_sub_cancel, upd_at]
  rfl
theorem Offset_any (B X : Int) (a : Option Addr) (n cap : Nat) (A O : Nat → Int) (u : Int) (w : World) (l : Laid w) (hr : Ents w a n A O) :
    Calls Tryd.prog 19 #[.agg #[.int .i64 B, .int .i64 X, .slice a n cap], .int .i64 u] w fun e w' => e = .returned (.int .i64 (offC B X A O n u)) ∧ Below w.heap.size w w' := by
  have hb : Below w.heap.size w (w.alloc (.cells #[.int .i64 B, .int .i64 X, .slice a n cap] 24)) := (Below.refl _ _).alloc (Nat.le_refl _) _
  have HB := hide hb
  have CK := hide (Check_any B X a n cap A O _ (l.step hb) (hr.below hb))
  have CO := hide (fun W (q : Below w.heap.size w W) => offset_any B X a n cap A O u W (hr.below q))
  clear hb l hr
  unfold offC
  by_cases hz : chkT B X A O n = 0
  · rw [hz] at CK
    rw [if_pos hz]
    clear hz
    go_enter Tryd.func19, Tryd.ntmps19
    go_wp2_with fail
    refine CK.out.mono ?_
    rintro e w1 ⟨rfl, b1⟩
    have k0 : w1.cell? ⟨w.heap.size, 0, none⟩ = some (.int .i64 B) := (b1.cell (p := ⟨w.heap.size, 0, none⟩) (by simp)).trans (by simp [go_sem])
    have k1 : w1.cell? ⟨w.heap.size, 1, none⟩ = some (.int .i64 X) := (b1.cell (p := ⟨w.heap.size, 1, none⟩) (by simp)).trans (by simp [go_sem])
    have k2 : w1.cell? ⟨w.heap.size, 2, none⟩ = some (.slice a n cap) := (b1.cell (p := ⟨w.heap.size, 2, none⟩) (by simp)).trans (by simp [go_sem])
    have b2 := HB.out.trans (b1.mono (by simp))
    clear b1
    go_wp2_with fail
    with_reducible refine (CO.out _ b2).mono ?_
    rintro e w3 ⟨rfl, b3⟩
    have HF := hide (b2.trans (b3.mono b2.size))
    clear b2 b3
    go_wp2
    go_ret
    exact ⟨rfl, HF.out⟩
  · have hz2 : (chkT B X A O n != 0) = true := by simpa using hz
    rw [if_neg hz]
    generalize chkT B X A O n = c at *
    clear hz CO
    go_enter Tryd.func19, Tryd.ntmps19
    go_wp2_with fail
    refine CK.out.mono ?_
    rintro e w1 ⟨rfl, b1⟩
    have HF := hide (HB.out.trans (b1.mono (by simp)))
    clear b1
    go_wp2
    go_ret
    exact ⟨rfl, HF.out⟩
end Go.Proofs.YtnmpoeljjajdiaaDoor.Vot
