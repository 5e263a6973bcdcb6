
/- The contract of the law's awake (layer 54). -/
import Derived.Test.YtbekfofakpbhiaaDoorVotK
namespace Go.Proofs.YtbekfofakpbhiaaDoor.Vot
open Go.RowKit Aid Civ Leap App
def exI (k : Nat) : Int := [1, 1, 0].getD k 0
def exS : Nat → Vt
  | 0 => .new 3
  | k + 1 => (exS k).next (k : Int) (exI k) 2287000000
theorem ex_inv (k : Nat) : Inv (exS k) := by
  induction k with
  | zero => exact Inv.new (by decide) (by decide)
  | succ k ih => exact ih.next _ _ _
theorem ex_v : ∀ k, k < 3 → vErr (exS k) (k : Int) (exI k) 2287000000 = 0 := by decide +kernel
theorem ex_cv : cv (exS 3) 2287000000 0 = 1 ∧ cv (exS 3) 2287000000 1 = 2 ∧ cv (exS 3) 2287000000 2 = 0 := by decide +kernel
theorem ex_dec : dec (exS 3) 2287000000 = 1 ∧ dec (exS 3) 2287086400 = 3 := by decide +kernel
theorem ex_date : dateOf 26469 = (1972, 6, 21) := dateOf_eq (by decide) (by constructor <;> decide)
theorem ex_nx : nxV 2287000000 = 2287785600 ∧ nxB 2287000000 = true := by
  have e : dateOf (2287000000 / 86400) = (1972, 6, 21) := ex_date
  unfold nxV nxB nxY nxM
  rw [e]
  decide +kernel
theorem ex_arm : armA (exS 3) 2287000000 = 2287785600 ∧ armO (exS 3) 2287000000 = 1 ∧ armB (exS 3) 2287000000 = true := by
  obtain ⟨a, b, c⟩ := arm_yes (.inl ex_dec.1) ex_nx.2
  exact ⟨a.trans ex_nx.1, b.trans (by rw [ex_dec.1]; rfl), c⟩
theorem ex_date2 : dateOf 26479 = (1972, 7, 1) := dateOf_eq (by decide) (by constructor <;> decide)
theorem ex_beg : begB 2287785600 = true := beg_intro (by omega) (by rw [show (2287785600 : Int) / 86400 = 26479 by decide, ex_date2]) (by decide)
theorem ex_chk : chkT 10 0 (fun _ => 0) (fun _ => 0) 0 = 0 := by
  unfold chkT
  rw [if_neg (by omega), if_pos (by decide)]
  rfl
theorem ex_ext : ExtOk 10 0 (fun _ => 0) (fun _ => 0) 0 2287785600 1 := ⟨ex_chk, ex_beg, fun q => absurd q (by omega), .inl rfl, by decide, by omega⟩
theorem ex_l : ∀ k, k < 3 → (#[.int .i64 1, .int .i64 1, .int .i64 0] : Array Value)[k]? = some (.int .i64 (exI k)) := by
  intro k hk
  match k, hk with
  | 0, _ | 1, _ | 2, _ => rfl
theorem grown2 {a b w : World} {g : Nat} (h : a.grownBy b (some g)) (k : b.grownBy w (some g)) : a.grownBy w (some g) :=
  ⟨k.os.trans h.os, k.tape.trans h.tape, k.output.trans h.output, Nat.le_trans h.size k.size, fun i hi hne => (k.block i (Nat.lt_of_lt_of_le hi h.size) hne).trans (h.block i hi hne)⟩
theorem PAt.step {w w' : World} {g : Nat} {s : Vt} (h : PAt w g s) (hb : Below w.heap.size w w') : PAt w' g s := RowAt.step h hb
set_option maxRecDepth 100000 in
set_option maxHeartbeats 3200000 in
theorem awake_any (w : World) (l : Laid w) : Calls Tryd.prog 8 #[] w fun e w' => e = .returned (.bool true) ∧ Below w.heap.size w w' := by
  have C1 := hide (PNew_ok 3 w (by decide) (by decide))
  have HL := hide l
  clear l
  go_enter Tryd.func8, Tryd.ntmps8
  go_wp2_with fail
  refine C1.out.mono ?_
  rintro e w1 ⟨g, rfl, hg, ha, hb⟩
  have hgl := ha.lt
  have hls := HL.out.lt
  have HA := hide ha
  have HB := hide hb
  have hs1 := hb.size
  clear ha hb C1
  go_wp2_with fail
  obtain ⟨W0, hW0⟩ : ∃ W0, W0 = w1.alloc (.cells #[.int .i64 1, .int .i64 1, .int .i64 0] 3) := ⟨_, rfl⟩
  have hc : W0.heap[w1.heap.size]? = some (.cells #[.int .i64 1, .int .i64 1, .int .i64 0] 3 (0, 0)) := by rw [hW0]; exact heap_alloc_new w1 _
  have hp : PAt W0 g (exS 0) := HA.out.step (by rw [hW0]; exact (Below.refl _ _).alloc (Nat.le_refl _) _)
  have hbw : Below w.heap.size w W0 := by rw [hW0]; exact HB.out.alloc hs1 _
  have hz : W0.heap.size = w1.heap.size + 1 := by rw [hW0]; simp
  rw [← hW0]
  have HC := hide hc
  have HP := hide hp
  have HBW := hide hbw
  clear hW0 HA HB hc hp hbw
  go_loopw [14] (fun i wr => ∃ k : Nat, k ≤ 3 ∧ i = .int .i64 k ∧ W0.grownBy wr (some g) ∧ PAt wr g (exS k)) (fun i _ => 3 - (intOf i).toNat)
  case atStart => exact ⟨0, by omega, rfl, World.grownBy.refl _ _, HP.out⟩
  case round =>
    clear HP
    obtain ⟨k, hk, rfl, hgr, ha⟩ := hrel
    by_cases hlt : k < 3
    · have F := PVote_any (exS k) g (k : Int) (exI k) 2287000000 wr ha (ex_inv k)
      rw [ex_v k hlt] at F
      have c0 : wr.cell? ⟨w1.heap.size, k, none⟩ = some (.int .i64 (exI k)) := (only_cell hgr (by omega) (by omega)).trans ((cell_of_row W0 _ _ _ _ _ HC.out).trans (ex_l k hlt))
      have HF := hide F
      have HG := hide hgr
      have hlt2 : (k : Int) < 3 := by omega
      obtain ⟨x, hx⟩ : ∃ x, x = exI k := ⟨_, rfl⟩
      rw [← hx] at c0 HF
      have HX := hide hx
      clear F ha hgr hx
      go_wp2_with fail
      refine HF.out.mono ?_
      rintro e w2 ⟨rfl, hg2, ha2⟩
      have HG2 := hide (grown2 HG.out hg2)
      have HA2 : Hid (PAt w2 g (exS (k + 1))) := hide (by rw [show exS (k + 1) = (exS k).next (k : Int) (exI k) 2287000000 from rfl, ← HX.out]; exact ha2)
      clear ha2 hg2
      go_wp2
      go_roundw
      case rel => exact ⟨k + 1, by omega, by go_num, HG2.out, HA2.out⟩
      case measure => (simp [intOf]) <;> omega
    · obtain rfl : k = 3 := by omega
      have hbr : Below w.heap.size w wr := below_only HBW.out hgr HBW.out.size (by omega)
      have lr := HL.out.step hbr
      have CC := Counts_any (exS 3) g 2287000000 wr ha (ex_inv 3)
      rw [ex_cv.1, ex_cv.2.1, ex_cv.2.2] at CC
      have CA := fun W (b : Below wr.heap.size wr W) => Arm_any (exS 3) g 2287000000 W (lr.step b) (ha.step b) (ex_inv 3)
      rw [ex_arm.1, ex_arm.2.1, ex_arm.2.2] at CA
      have CE := fun W (b : Below wr.heap.size wr W) => (PExt_okzp 10 0 none 0 0 (fun _ => 0) (fun _ => 0) 2287785600 W (lr.step b) ⟨by omega, fun q => absurd q (by omega)⟩ ex_ext rfl).mono (R' := fun e w' => ∃ p c, e = .returned (.tuple #[.agg #[.int .i64 10, .int .i64 2287785601, .slice p 1 c], .int .i64 0]) ∧ Ents w' p 1 (upd (fun _ => 0) 0 2287785600) (upd (fun _ => 0) 0 11) ∧ Below W.heap.size W w') (fun e w' q => by obtain ⟨⟨p, c, h1, h2⟩, h3⟩ := q; exact ⟨p, c, h1, h2, h3⟩)
      have CD1 := fun W (b : Below wr.heap.size wr W) => Decision_any (exS 3) g 2287000000 W (ha.step b) (ex_inv 3)
      have CD2 := fun W (b : Below wr.heap.size wr W) => Decision_any (exS 3) g 2287086400 W (ha.step b) (ex_inv 3)
      rw [ex_dec.1] at CD1
      rw [ex_dec.2] at CD2
      have HBR := hide hbr
      have HCC := hide CC
      have HCA := hide CA
      have HCE := hide CE
      have HD1 := hide CD1
      have HD2 := hide CD2
      clear hbr lr CC CA CE CD1 CD2 ha hgr
      go_wp2_with fail
      refine HCC.out.mono ?_
      rintro e w2 ⟨rfl, b2⟩
      go_wp2_with fail
      with_reducible refine (HCA.out _ b2).mono ?_
      rintro e w3 ⟨rfl, b3⟩
      have b3 := b2.trans (b3.mono b2.size)
      clear b2
      go_wp2_with fail
      have q3 : Below wr.heap.size wr (w3.alloc (.cells #[.int .i64 2287785600, .int .i64 1] 36)) := b3.alloc b3.size _
      with_reducible refine (HCE.out _ q3).mono ?_
      rintro e w4 ⟨p, c, rfl, he, b4⟩
      have q4 := q3.trans (b4.mono q3.size)
      have s3 := b3.size
      have s4 := b4.size
      have u0 : w4.cell? ⟨w3.heap.size, 0, none⟩ = some (.int .i64 2287785600) := (b4.cell (p := ⟨w3.heap.size, 0, none⟩) (by simp)).trans (by simp [go_sem])
      have u1 : w4.cell? ⟨w3.heap.size, 1, none⟩ = some (.int .i64 1) := (b4.cell (p := ⟨w3.heap.size, 1, none⟩) (by simp)).trans (by simp [go_sem])
      have s5 : w3.heap.size < w4.heap.size := by simp at s4; omega
      have HE := hide he
      have Q4 := hide q4
      have HU0 := hide u0
      have HU1 := hide u1
      clear he b4 q3 b3 HCE HCA HCC u0 u1 q4 s4
      go_wp2_with fail
      obtain ⟨W5, hW5⟩ : ∃ W5, W5 = w4.alloc (.cells #[.int .i64 10, .int .i64 2287785601, .slice p 1 c] 43) := ⟨_, rfl⟩
      have h5 : W5.heap.size = w4.heap.size + 1 := by rw [hW5]; simp
      have g5 : Below w4.heap.size w4 W5 := by rw [hW5]; exact (Below.refl _ _).alloc (Nat.le_refl _) _
      have t0 : W5.cell? ⟨w4.heap.size, 0, none⟩ = some (.int .i64 10) := by rw [hW5]; simp [go_sem]
      have t1 : W5.cell? ⟨w4.heap.size, 1, none⟩ = some (.int .i64 2287785601) := by rw [hW5]; simp [go_sem]
      have t2 : W5.cell? ⟨w4.heap.size, 2, none⟩ = some (.slice p 1 c) := by rw [hW5]; simp [go_sem]
      have u0 := (g5.cell (p := ⟨w3.heap.size, 0, none⟩) s5).trans HU0.out
      have u1 := (g5.cell (p := ⟨w3.heap.size, 1, none⟩) s5).trans HU1.out
      have e5 := hide (HE.out.below g5)
      have q5 := Q4.out.trans (g5.mono Q4.out.size)
      have HK := hide (fun (V : World) (b : Below W5.heap.size W5 V) => And.intro ((b.cell (p := ⟨w3.heap.size, 0, none⟩) (by dsimp only; omega)).trans u0) (And.intro ((b.cell (p := ⟨w3.heap.size, 1, none⟩) (by dsimp only; omega)).trans u1) (And.intro ((b.cell (p := ⟨w4.heap.size, 0, none⟩) (by dsimp only; omega)).trans t0) (And.intro ((b.cell (p := ⟨w4.heap.size, 1, none⟩) (by dsimp only; omega)).trans t1) (And.intro ((b.cell (p := ⟨w4.heap.size, 2, none⟩) (by dsimp only; omega)).trans t2) (e5.out.below b))))))
      rw [← hW5]
      have Q5 := hide q5
      clear hW5 t0 t1 t2 u0 u1 HU0 HU1 HE Q4 e5 g5
      with_reducible refine (HD1.out _ q5).mono ?_
      rintro e w6 ⟨rfl, b6⟩
      have q6 := q5.trans (b6.mono q5.size)
      clear q5
      go_wp2_with fail
      with_reducible refine (HD2.out _ q6).mono ?_
      rintro e w7 ⟨rfl, b7⟩
      have b57 := b6.trans (b7.mono b6.size)
      have s57 := b57.size
      obtain ⟨u0, u1, t0, t1, t2, e7⟩ := HK.out _ b57
      have CS := fun W b h1 h2 => Same_eq 10 2287785601 p b 1 c 1 (upd (fun _ => 0) 0 2287785600) (upd (fun _ => 0) 0 11) W h1 h2
      have HCS := hide CS
      have HE7 := hide e7
      have HQ := hide (Q5.out.trans (b57.mono Q5.out.size))
      clear q6 b6 b7 b57 e7 CS HK HD1 HD2
      go_wp2_with fail
      have g8 : Below w7.heap.size w7 (w7.alloc (.cells #[.int .i64 2287785600, .int .i64 11] 36)) := (Below.refl _ _).alloc (Nat.le_refl _) _
      have e8 : Ents (w7.alloc (.cells #[.int .i64 2287785600, .int .i64 11] 36)) (some ⟨w7.heap.size, 0, none⟩) 1 (upd (fun _ => 0) 0 2287785600) (upd (fun _ => 0) 0 11) :=
        ⟨by omega, fun _ => ⟨w7.heap.size, 0, rfl, by simp, fun i hi => by obtain rfl : i = 0 := by omega
                                                                           exact ⟨by simp [go_sem, upd], by simp [go_sem, upd]⟩⟩⟩
      refine (HCS.out _ _ (HE7.out.below g8) e8).mono ?_
      rintro e w9 ⟨rfl, b9⟩
      have fin := hide (((HBR.out.trans (HQ.out.mono HBR.out.size)).trans (g8.mono (Nat.le_trans HBR.out.size HQ.out.size))).trans (b9.mono (Nat.le_trans (Nat.le_trans HBR.out.size HQ.out.size) g8.size)))
      clear b9 g8 e8
      go_wp2
      go_ret
      exact ⟨rfl, fin.out⟩
end Go.Proofs.YtbekfofakpbhiaaDoor.Vot
