/- The contracts of When of package osc, of the closure in it, and of the reference's When (layer 9). -/
import Derived.Test.YtcfmjoadbamdiaaOscH
import Derived.Test.YtcfmjoadbamdiaaSearch
namespace Go.Proofs.Ytcfmjoadbamdiaa.OscW
open Go.RowKit OscP Aid

theorem SpansAt.below {w w' : World} {B g n : Nat} {A P E : Nat → Int} (h : SpansAt w g n A P E) (hb : Below B w w') (hg : g < B) : SpansAt w' g n A P E :=
  ⟨Nat.lt_of_lt_of_le h.1 hb.size, fun i hi => ⟨(hb.cell (p := ⟨g, _, none⟩) hg).trans (h.2 i hi).1, (hb.cell (p := ⟨g, _, none⟩) hg).trans (h.2 i hi).2.1, (hb.cell (p := ⟨g, _, none⟩) hg).trans (h.2 i hi).2.2⟩⟩

/-- what the closure finds in memory -/
def Held (W : World) (bo bl br g n : Nat) (ph r : Int) : Prop := W.cell? ⟨bo, 0, none⟩ = some (.int .i64 ph) ∧ W.cell? ⟨bl, 0, none⟩ = some (.slice (some ⟨g, 0, none⟩) n n) ∧ W.cell? ⟨br, 0, none⟩ = some (.int .i64 r)

set_option maxHeartbeats 1600000 in
theorem closure_any (ph : Int) (bo bl br g n B : Nat) (A P : Nat → Int) (r t : Int) (w0 : World) (ok : Ok ph A P n) (hB : B ≤ w0.heap.size) (hbo : bo < B) (hbl : bl < B) (hbr : br < B) (hg : g < B) (hh : Held w0 bo bl br g n ph r) (hs : SpansAt w0 g n A P (ends A n)) (ht : 0 ≤ t ∧ t ≤ 1125899906842624) :
    ∀ W, Below B w0 W → Calls Try.prog 26 #[.int .i64 t, .pointer (some ⟨bo, 0, none⟩), .pointer (some ⟨bl, 0, none⟩), .pointer (some ⟨br, 0, none⟩)] W fun e w' => e = .returned (.bool (decide (r ≤ rd ph A P n t))) ∧ Below B w0 w' := by
  intro W hb
  have K : ∀ W, Below B w0 W → W.cell? ⟨bo, 0, none⟩ = some (.int .i64 ph) ∧ W.cell? ⟨bl, 0, none⟩ = some (.slice (some ⟨g, 0, none⟩) n n) ∧ W.cell? ⟨br, 0, none⟩ = some (.int .i64 r) ∧ Below B w0 W :=
    fun W h => ⟨(h.cell (p := ⟨bo, 0, none⟩) hbo).trans hh.1, (h.cell (p := ⟨bl, 0, none⟩) hbl).trans hh.2.1, (h.cell (p := ⟨br, 0, none⟩) hbr).trans hh.2.2, h⟩
  have C := based hB fun W h => reading_any ph g n n A P t W (hs.below h hg) ok ht
  obtain ⟨k0, k1, k2, _⟩ := K W hb
  have HK := hide K
  have HC := hide C
  clear K C hh hs ok ht
  go_enter Try.func26, Try.ntmps26
  go_wp2
  go_region_held3 (fun W => W.cell? ⟨bo, 0, none⟩ = some (.int .i64 ph) ∧ W.cell? ⟨bl, 0, none⟩ = some (.slice (some ⟨g, 0, none⟩) n n) ∧ W.cell? ⟨br, 0, none⟩ = some (.int .i64 r) ∧ Below B w0 W) (first | exact HK.out _ (by assumption) | exact HK.out _ (Below.drew (by assumption)))
    (first | (go_at_call 21; refine (HC.out _ (by first | assumption | exact And.right (And.right (And.right (by assumption))))).mono ?_; rintro e w' ⟨rfl, hb⟩))
  go_wp2
  go_ret
  exact ⟨rfl, by assumption⟩

/-- what When returns -/
def whE (c r : Int) : Int := if c ≠ 0 then c else if 1125899906842624 < r then 11 else 0
def whV (c r : Int) : Int := if c ≠ 0 then 0 else if 1125899906842624 < r then 0 else r
/-- r is the first time at which the reading is at least x -/
def First (ph : Int) (A P : Nat → Int) (n : Nat) (x r : Int) : Prop := 0 ≤ r ∧ r ≤ 1125899906842625 ∧ ∀ i : Int, 0 ≤ i → i < 1125899906842625 → (x ≤ rd ph A P n i ↔ r ≤ i)
/-- a monotone reading, clipped -/
def rdc (ph : Int) (A P : Nat → Int) (n : Nat) (i : Int) : Int := rd ph A P n (max i 0)
theorem first_ex {ph : Int} {A P : Nat → Int} {n : Nat} (ok : Ok ph A P n) (x : Int) : ∃ r, First ph A P n x r := by
  obtain ⟨r, r0, r1, hr⟩ := Srch.first_yes (fun i => x ≤ rdc ph A P n i) (fun i h => by
    have : rdc ph A P n i ≤ rdc ph A P n (i + 1) := rd_mono ok (by omega) (by omega)
    show x ≤ rdc ph A P n (i + 1)
    omega) 1125899906842625
  refine ⟨r, r0, by omega, fun i h1 h2 => ?_⟩
  have := hr i h1 (by omega)
  unfold rdc at this
  rwa [show max i 0 = i by omega] at this

set_option maxHeartbeats 1600000 in
theorem When_any (ph : Int) (a : Option Addr) (n cap : Nat) (A P : Nat → Int) (x r : Int) (w : World) (hr : SegsAt w a n A P) (hf : chk ph A P n = 0 → First ph A P n x r) :
    Calls Try.prog 19 #[.agg #[.int .i64 ph, .slice a n cap], .int .i64 x] w fun e w' => e = .returned (.tuple #[.int .i64 (whV (chk ph A P n) r), .int .i64 (whE (chk ph A P n) r)]) ∧ Below w.heap.size w w' := by
  have hb0 : Below w.heap.size w ((w.alloc (.cells #[.int .i64 ph, .slice a n cap] 24)).alloc (.cells #[.int .i64 x] 3)) := ((Below.refl _ _).alloc (Nat.le_refl _) _).alloc (by simp) _
  have HB := hide hb0
  have C3 := hide (Check_any ph a n cap A P _ (hr.below hb0))
  have HR := hide hr
  clear hr hb0
  by_cases hz : chk ph A P n = 0
  · have ok := chk_ok hz
    have F := hf hz
    rw [hz] at C3 ⊢
    clear hz hf
    go_enter Try.func19, Try.ntmps19
    go_wp2_with fail
    refine C3.out.mono ?_
    rintro e w1 ⟨rfl, hb1⟩
    have k0 : w1.cell? ⟨w.heap.size, 0, none⟩ = some (.int .i64 ph) := (hb1.cell (p := ⟨w.heap.size, 0, none⟩) (by simp; omega)).trans (by simp [go_sem])
    have k1 : w1.cell? ⟨w.heap.size, 1, none⟩ = some (.slice a n cap) := (hb1.cell (p := ⟨w.heap.size, 1, none⟩) (by simp; omega)).trans (by simp [go_sem])
    have kx : w1.cell? ⟨w.heap.size + 1, 0, none⟩ = some (.int .i64 x) := (hb1.cell (p := ⟨w.heap.size + 1, 0, none⟩) (by simp)).trans (by simp [go_sem])
    have hs1 : w.heap.size + 1 < w1.heap.size := by have := hb1.size; simp at this; omega
    have hbw1 := HB.out.trans (hb1.mono (by simp; omega))
    have CS := hide (spans_any ph a n cap A P w1 (HR.out.below hbw1) ok)
    have HB1 := hide hbw1
    have HO := hide ok
    have HF := hide F
    clear hb1 hbw1 ok F
    go_wp2_with fail
    refine CS.out.mono ?_
    rintro e w2 ⟨g, rfl, hsp, hb2⟩
    have hs2 := hb2.size
    have hgl := hsp.1
    have B3 : Below w1.heap.size w1 (w2.alloc (.cells #[.slice (some ⟨g, 0, none⟩) n n] 38)) := hb2.alloc hs2 _
    have hsp3 : SpansAt (w2.alloc (.cells #[.slice (some ⟨g, 0, none⟩) n n] 38)) g n A P (ends A n) := hsp.below ((Below.refl w2.heap.size _).alloc (Nat.le_refl _) _) hgl
    have hh : Held (w2.alloc (.cells #[.slice (some ⟨g, 0, none⟩) n n] 38)) w.heap.size w2.heap.size (w.heap.size + 1) g n ph x :=
      ⟨(B3.cell (p := ⟨w.heap.size, 0, none⟩) (by show w.heap.size < _; omega)).trans k0, by simp [go_sem], (B3.cell (p := ⟨w.heap.size + 1, 0, none⟩) hs1).trans kx⟩
    have CC := fun (i : Int) (hi : 0 ≤ i ∧ i ≤ 1125899906842624) => closure_any ph w.heap.size w2.heap.size (w.heap.size + 1) g n (w2.heap.size + 1) A P x i _ HO.out (by simp) (by omega) (by omega) (by omega) (by omega) hh hsp3 hi
    obtain ⟨F0, F1, F2⟩ := HF.out
    have CF := Srch.Search_any 1125899906842625 r F0 (by omega) F1 (.pointer (some ⟨w.heap.size, 0, none⟩)) (.pointer (some ⟨w2.heap.size, 0, none⟩)) (.pointer (some ⟨w.heap.size + 1, 0, none⟩))
      (fun W => Below (w2.heap.size + 1) (w2.alloc (.cells #[.slice (some ⟨g, 0, none⟩) n n] 38)) W)
      (fun W i hI h1 h2 => by
        have := CC i ⟨h1, by omega⟩ W hI
        have e : decide (x ≤ rd ph A P n i) = decide (r ≤ i) := by rw [decide_eq_decide]; exact F2 i h1 h2
        rwa [e] at this) _ (Below.refl _ _)
    have HCF := hide CF
    have HB3 := hide B3
    clear hsp hsp3 hh CC F2 CF B3 hb2
    go_wp2_with fail
    refine HCF.out.mono ?_
    rintro e w3 ⟨rfl, hb3⟩
    have hfin : Below w.heap.size w w3 := HB1.out.trans ((HB3.out.mono (by omega)).trans (hb3.mono (by omega)))
    clear hb3
    by_cases hl : 1125899906842624 < r
    · have ev : whV 0 r = 0 := by unfold whV; rw [if_neg (by omega), if_pos hl]
      have ee : whE 0 r = 11 := by unfold whE; rw [if_neg (by omega), if_pos hl]
      go_wp2
      go_ret2
      rw [ev, ee]
      exact ⟨rfl, hfin⟩
    · have ev : whV 0 r = r := by unfold whV; rw [if_neg (by omega), if_neg hl]
      have ee : whE 0 r = 0 := by unfold whE; rw [if_neg (by omega), if_neg hl]
      have EV := hide ev
      clear ev
      go_wp2
      go_ret2
      rw [EV.out, ee]
      exact ⟨rfl, hfin⟩
  · have ev : whV (chk ph A P n) r = 0 := by unfold whV; rw [if_pos hz]
    have ee : whE (chk ph A P n) r = chk ph A P n := by unfold whE; rw [if_pos hz]
    rw [ev, ee]
    have hz' : (chk ph A P n != 0) = true := by simp [hz]
    clear hz ev ee hf
    go_enter Try.func19, Try.ntmps19
    go_wp2_with fail
    refine C3.out.mono ?_
    rintro e w1 ⟨rfl, hb1⟩
    have hbw1 := HB.out.trans (hb1.mono (by simp; omega))
    clear hb1
    go_wp2
    go_ret2
    exact ⟨rfl, hbw1⟩
end Go.Proofs.Ytcfmjoadbamdiaa.OscW
