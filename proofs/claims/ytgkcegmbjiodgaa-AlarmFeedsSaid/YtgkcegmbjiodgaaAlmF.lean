
/- The contract of the law's awake (layer 49). -/
import Derived.Test.YtgkcegmbjiodgaaAlmE
namespace Go.Proofs.Ytgkcegmbjiodgaa.AlmW
open Go.RowKit Alm Aid
theorem AlmAt.below {w w' : World} {B g : Nat} {c : Conf} {s : St} (h : AlmAt w g c s) (hb : Below B w w') (hg : g < B) : AlmAt w' g c s := (hb.block g hg).trans h
theorem AlmAt.drewN {w : World} {g : Nat} {c : Conf} {s : St} (h : AlmAt w g c s) (n : Nat) : AlmAt (w.drewN n) g c s := h
theorem grown_trans {a b w : World} {g : Nat} (h : a.grownBy b (some g)) (k : b.drew.grownBy w (some g)) : a.grownBy w (some g) :=
  ⟨k.os.trans h.os, k.tape.trans h.tape, k.output.trans h.output, Nat.le_trans h.size k.size, fun i hi hne => (k.block i (Nat.lt_of_lt_of_le hi h.size) hne).trans (h.block i hi hne)⟩
def exC : Conf := ⟨10, 5, 2, 2, 100⟩
def exAt (k : Nat) : Int := [0, 10, 20, 30, 100, 130, 140, 150, 160, 170].getD k 0
def exV (k : Nat) : Int := [11, 10, 11, 12, 50, 50, 4, 5, 4, 3].getD k 0
def exN (k : Nat) : Int := [0, 0, 0, 1, 0, 3, 0, 0, 0, 2].getD k 0
def exS : Nat → St
  | 0 => St.new
  | k + 1 => feedS exC (exS k) (exAt k) (exV k)
theorem ex_n : ∀ k, k < 10 → feedN exC (exS k) (exAt k) (exV k) = exN k := by decide +kernel
theorem ex_e : ∀ k, k < 10 → err (exS k) (exAt k) = 0 := by decide +kernel
theorem ex_r : ∀ k, k < 10 → (exS (k + 1)).raised = (decide (3 ≤ k) && decide (k < 9)) := by decide +kernel
theorem ex_s : ∀ k, k < 10 → 3 ≤ k → k < 9 → (exS (k + 1)).since = 30 := by decide +kernel
theorem ex_z (k : Nat) : Sz (exS k) k := by
  induction k with
  | zero => exact Sz.new
  | succ k ih => exact ih.feed
theorem ex_last : err (exS 10) 169 = 12 ∧ err (exS 10) (-1) = 3 := by decide +kernel
theorem ex_cnt : (exS 10).raises = 1 ∧ (exS 10).clears = 1 ∧ (exS 10).repeats = 1 := by decide +kernel
theorem ex_bad : chk ⟨0, 0, 0, 0, 0⟩ ≠ 0 := by decide +kernel
theorem ex_ord : chk ⟨1, 2, 1, 1, 0⟩ = 12 := by decide +kernel
theorem ex_ok : chk exC = 0 := by decide +kernel
def exL : Array Value := #[.int .i64 0, .int .i64 11, .int .i64 10, .int .i64 10, .int .i64 20, .int .i64 11, .int .i64 30, .int .i64 12, .int .i64 100, .int .i64 50, .int .i64 130, .int .i64 50, .int .i64 140, .int .i64 4, .int .i64 150, .int .i64 5, .int .i64 160, .int .i64 4, .int .i64 170, .int .i64 3]
def exK : Array Value := #[.int .i64 0, .int .i64 0, .int .i64 0, .int .i64 1, .int .i64 0, .int .i64 3, .int .i64 0, .int .i64 0, .int .i64 0, .int .i64 2]
theorem ex_l : ∀ k, k < 10 → exL[k * 2]? = some (.int .i64 (exAt k)) ∧ exL[k * 2 + 1]? = some (.int .i64 (exV k)) ∧ exK[k]? = some (.int .i64 (exN k)) := by
  intro k hk
  match k, hk with
  | 0, _ | 1, _ | 2, _ | 3, _ | 4, _ | 5, _ | 6, _ | 7, _ | 8, _ | 9, _ => exact ⟨rfl, rfl, rfl⟩
set_option maxRecDepth 100000 in
set_option maxHeartbeats 1600000 in
theorem awake_any (w : World) : Calls Try.prog 13 #[] w fun e w' => e = .returned (.bool true) ∧ Below w.heap.size w w' := by
  have C1 := hide (New_ok 10 5 2 2 100 w ex_ok)
  have C2 := hide fun W => New_bad 0 0 0 0 0 W ex_bad
  have C3 := hide fun W => (by have := Check_any 1 2 1 1 0 W; rwa [ex_ord] at this : Calls Try.prog 10 #[.agg #[.int .i64 1, .int .i64 2, .int .i64 1, .int .i64 1, .int .i64 0]] W fun e w' => e = .returned (.int .i64 12) ∧ Below W.heap.size W w')
  go_enter Try.func13, Try.ntmps13
  go_wp2_with fail
  refine C1.out.mono ?_
  rintro e w1 ⟨g, rfl, hg, ha, hb⟩
  have hgl := ha.lt
  go_wp2_with fail
  refine (C2.out _).mono ?_
  rintro e w2 ⟨rfl, hb2⟩
  go_wp2_with fail
  refine (C3.out _).mono ?_
  rintro e w3 ⟨rfl, hb3⟩
  have hb13 := hb2.trans (hb3.mono hb2.size)
  have ha3 := ha.below hb13 hgl
  have hbw3 := hb.trans (hb13.mono hb.size)
  clear hb2 hb3 ha hb hb13
  have hgl3 := ha3.lt
  have HA := hide ha3
  have HB := hide hbw3
  clear ha3 hbw3 C1 C2 C3
  go_wp2
  have l1 : (((w3.alloc (.cells exL 36)).alloc (.cells exK 3))).heap[w3.heap.size]? = some (.cells exL 36 (0, 0)) := (Below.heap_alloc (w3.alloc (.cells exL 36)) _ _ (by simp)).trans (heap_alloc_new w3 _)
  have l2 : (((w3.alloc (.cells exL 36)).alloc (.cells exK 3))).heap[w3.heap.size + 1]? = some (.cells exK 3 (0, 0)) := by
    have := heap_alloc_new (w3.alloc (.cells exL 36)) (.cells exK 3)
    simpa using this
  have l3 : AlmAt ((w3.alloc (.cells exL 36)).alloc (.cells exK 3)) g exC (exS 0) := HA.out.below (((Below.refl w3.heap.size _).alloc (Nat.le_refl _) _).alloc (by simp) _) hgl3
  have l4 : Below w3.heap.size w3 ((w3.alloc (.cells exL 36)).alloc (.cells exK 3)) := ((Below.refl w3.heap.size _).alloc (Nat.le_refl _) _).alloc (by simp) _
  have l5 : w3.heap.size + 2 ≤ ((w3.alloc (.cells exL 36)).alloc (.cells exK 3)).heap.size := by simp
  change Code.wp _ _ _ _ ((w3.alloc (.cells exL 36)).alloc (.cells exK 3))
  generalize (w3.alloc (.cells exL 36)).alloc (.cells exK 3) = W0 at *
  have HL4 := hide l4
  have HL1 := hide l1
  have HL2 := hide l2
  have HL3 := hide l3
  clear HA l1 l2 l3 l4
  go_loopw [4] (fun i wr => ∃ k : Nat, k ≤ 10 ∧ i = .int .i64 k ∧ W0.grownBy wr (some g) ∧ AlmAt wr g exC (exS k)) (fun i _ => 10 - (intOf i).toNat)
  case atStart => exact ⟨0, by omega, rfl, World.grownBy.refl _ _, HL3.out⟩
  case round =>
    obtain ⟨k, hk, rfl, hgr, ha⟩ := hrel
    by_cases hlt : k < 10
    · have cell : ∀ W, W0.grownBy W (some g) → W.cell? ⟨w3.heap.size, k * 2, none⟩ = some (.int .i64 (exAt k)) ∧ W.cell? ⟨w3.heap.size, k * 2 + 1, none⟩ = some (.int .i64 (exV k)) ∧ W.cell? ⟨w3.heap.size + 1, k, none⟩ = some (.int .i64 (exN k)) := by
        intro W hW
        obtain ⟨a, b, c⟩ := ex_l k hlt
        exact ⟨(only_cell hW (by omega) (by omega)).trans ((cell_of_row W0 _ _ _ _ _ HL1.out).trans a), (only_cell hW (by omega) (by omega)).trans ((cell_of_row W0 _ _ _ _ _ HL1.out).trans b), (only_cell hW (by omega) (by omega)).trans ((cell_of_row W0 _ _ _ _ _ HL2.out).trans c)⟩
      have F := Feed_any g exC (exS k) k (exAt k) (exV k) wr.drew ha (ex_z k) (by omega)
      rw [ex_n k hlt, ex_e k hlt] at F
      have HF := hide F
      obtain ⟨c0, c1, c2⟩ := cell wr hgr
      have HC := hide cell
      have HG := hide hgr
      clear F ha cell hgr
      go_wp2
      go_region_held3 (fun W => W.cell? ⟨w3.heap.size, k * 2, none⟩ = some (.int .i64 (exAt k)) ∧ W.cell? ⟨w3.heap.size, k * 2 + 1, none⟩ = some (.int .i64 (exV k))) (first | exact ⟨(HC.out _ (by assumption)).1, (HC.out _ (by assumption)).2.1⟩ | exact ⟨c0, c1⟩)
        (first | (go_at_call 15; refine HF.out.mono ?_; rintro e w' ⟨rfl, hgr', ha'⟩; have hgr2 : W0.grownBy w' (some g) := grown_trans HG.out hgr'; clear hgr'))
      have hA : AlmAt w' g exC (exS (k + 1)) := ha'
      clear ha'
      have kb : (0 : Int) ≤ (k : Int) := by omega
      by_cases h3 : 3 ≤ k
      · by_cases h9 : k < 9
        · have h3' : (3 : Int) ≤ (k : Int) := by omega
          have h9' : (k : Int) < 9 := by omega
          have hr : (exS (k + 1)).raised = true := by rw [ex_r k hlt]; simp; omega
          have CS := Since_any g exC (exS (k + 1)) w' hA
          rw [show (if (exS (k + 1)).raised = true then (exS (k + 1)).since else 0) = 30 from by rw [hr, if_pos rfl, ex_s k hlt (by omega) (by omega)], hr] at CS
          have CR := Raised_any g exC (exS (k + 1)) w' hA
          rw [hr] at CR
          have HCS := hide CS
          have HCR := hide CR
          have HA := hide hA
          have HG2 := hide hgr2
          obtain ⟨c0', c1', c2'⟩ := HC.out w' hgr2
          clear hr CS CR hA hgr2
          go_wp2_with (first | (go_at_call 17; refine HCS.out.mono ?_; rintro e w'' ⟨rfl, rfl⟩) | (go_at_call 19; refine HCR.out.mono ?_; rintro e w'' ⟨rfl, rfl⟩))
          go_roundw
          case rel => exact ⟨k + 1, by omega, by go_num, HG2.out, HA.out⟩
          case measure => simp [intOf]; omega
        · have h3' : (3 : Int) ≤ (k : Int) := by omega
          have h9' : decide ((k : Int) < 9) = false := by simp; omega
          have hr : (exS (k + 1)).raised = false := by rw [ex_r k hlt]; simp; omega
          have CS := Since_any g exC (exS (k + 1)) w' hA
          rw [show (if (exS (k + 1)).raised = true then (exS (k + 1)).since else 0) = 0 from by rw [hr]; rfl, hr] at CS
          have CR := Raised_any g exC (exS (k + 1)) w' hA
          rw [hr] at CR
          have HCS := hide CS
          have HCR := hide CR
          have HA := hide hA
          have HG2 := hide hgr2
          obtain ⟨c0', c1', c2'⟩ := HC.out w' hgr2
          clear hr CS CR hA hgr2
          go_wp2_with (first | (go_at_call 17; refine HCS.out.mono ?_; rintro e w'' ⟨rfl, rfl⟩) | (go_at_call 19; refine HCR.out.mono ?_; rintro e w'' ⟨rfl, rfl⟩))
          go_roundw
          case rel => exact ⟨k + 1, by omega, by go_num, HG2.out, HA.out⟩
          case measure => simp [intOf]; omega
      · have h3' : decide ((3 : Int) ≤ (k : Int)) = false := by simp; omega
        have hr : (exS (k + 1)).raised = false := by rw [ex_r k hlt]; simp; omega
        have CS := Since_any g exC (exS (k + 1)) w' hA
        rw [show (if (exS (k + 1)).raised = true then (exS (k + 1)).since else 0) = 0 from by rw [hr]; rfl, hr] at CS
        have CR := Raised_any g exC (exS (k + 1)) w' hA
        rw [hr] at CR
        have HCS := hide CS
        have HCR := hide CR
        have HA := hide hA
        have HG2 := hide hgr2
        obtain ⟨c0', c1', c2'⟩ := HC.out w' hgr2
        clear hr CS CR hA hgr2
        go_wp2_with (first | (go_at_call 17; refine HCS.out.mono ?_; rintro e w'' ⟨rfl, rfl⟩) | (go_at_call 19; refine HCR.out.mono ?_; rintro e w'' ⟨rfl, rfl⟩))
        go_roundw
        case rel => exact ⟨k + 1, by omega, by go_num, HG2.out, HA.out⟩
        case measure => simp [intOf]; omega
    · have e10 : k = 10 := by omega
      subst e10
      have F1 := Feed_any g exC (exS 10) 10 169 0 wr ha (ex_z 10) (by omega)
      rw [ex_last.1] at F1
      have f1 : feedS exC (exS 10) 169 0 = exS 10 := by unfold feedS; rw [if_neg (by rw [ex_last.1]; omega)]
      have f2 : feedN exC (exS 10) 169 0 = 0 := by unfold feedN; rw [if_neg (by rw [ex_last.1]; omega)]
      rw [f1, f2] at F1
      have HF := hide F1
      have HG := hide hgr
      have F2 := fun W h => Feed_any g exC (exS 10) 10 (-1) 0 W h (ex_z 10) (by omega)
      have f1 : feedS exC (exS 10) (-1) 0 = exS 10 := by unfold feedS; rw [if_neg (by rw [ex_last.2]; omega)]
      have f2 : feedN exC (exS 10) (-1) 0 = 0 := by unfold feedN; rw [if_neg (by rw [ex_last.2]; omega)]
      rw [f1, f2, ex_last.2] at F2
      have HF2 := hide F2
      have CC := fun W h => Counts_any g exC (exS 10) W h
      rw [ex_cnt.1, ex_cnt.2.1, ex_cnt.2.2] at CC
      have HCC := hide CC
      clear F1 f1 f2 F2 CC ha hgr
      go_wp2_with fail
      refine HF.out.mono ?_
      rintro e w4 ⟨rfl, g4, a4⟩
      have HA4 := hide a4
      have HG4 := hide g4
      clear a4 g4
      go_wp2_with fail
      refine (HF2.out _ HA4.out).mono ?_
      rintro e w5 ⟨rfl, g5, a5⟩
      have HA5 := hide a5
      have HG5 := hide g5
      clear a5 g5
      go_wp2_with fail
      refine (HCC.out _ HA5.out).mono ?_
      rintro e w6 ⟨rfl, nq, rfl⟩
      go_wp2
      go_ret
      exact ⟨rfl, below_drewN (below_only (below_only (below_only (HB.out.trans (HL4.out.mono HB.out.size)) HG.out (by omega) hg) HG4.out (by have := HG.out.size; omega) hg) HG5.out (by have := HG.out.size; have := HG4.out.size; omega) hg) _⟩
end Go.Proofs.Ytgkcegmbjiodgaa.AlmW
