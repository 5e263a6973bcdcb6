/- Layer 5: Text of the package and of its reference. -/
import Derived.Test.YtbhpceghgjognaaDoorCivJ
namespace Go.Proofs.YtbhpceghgjognaaDoor.Civ
open Go.RowKit Aid
def textL (Y M D H I S N : Nat) : List UInt8 := dgt 4 Y ++ [45] ++ dgt 2 M ++ [45] ++ dgt 2 D ++ [84] ++ dgt 2 H ++ [58] ++ dgt 2 I ++ [58] ++ dgt 2 S ++ [46] ++ dgt 9 N ++ [90]
def textV (y m d h mi s n : Int) : ByteArray := if chkC y m d h mi s n = 0 then ⟨(textL y.toNat m.toNat d.toNat h.toNat mi.toNat s.toNat n.toNat).toArray⟩ else ⟨#[]⟩
theorem text_bytes (Y M D H I S N : Nat) : (⟨(textL Y M D H I S N).toArray⟩ : ByteArray) = ⟨(dgt 4 Y).toArray⟩ ++ ⟨#[45]⟩ ++ ⟨(dgt 2 M).toArray⟩ ++ ⟨#[45]⟩ ++ ⟨(dgt 2 D).toArray⟩ ++ ⟨#[84]⟩ ++ ⟨(dgt 2 H).toArray⟩ ++ ⟨#[58]⟩ ++ ⟨(dgt 2 I).toArray⟩ ++ ⟨#[58]⟩ ++ ⟨(dgt 2 S).toArray⟩ ++ ⟨#[46]⟩ ++ ⟨(dgt 9 N).toArray⟩ ++ ⟨#[90]⟩ := by
  simp only [textL, ← bs_append]
set_option maxRecDepth 100000 in
set_option maxHeartbeats 6400000 in
theorem Text_ok (Y M D H I S N : Nat) (w : World) (l : Laid5 w) (hz : chkC Y M D H I S N = 0) :
    Calls Tryd.prog 16 #[.agg #[.int .i64 Y, .int .i64 M, .int .i64 D, .int .i64 H, .int .i64 I, .int .i64 S, .int .i64 N]] w fun e w' => e = .returned (.string ⟨(textL Y M D H I S N).toArray⟩) ∧ Below w.heap.size w w' := by
  obtain ⟨a1, a2, b1, b2, c1, c2, d1, d2, f1, f2, g1, g2, k1, k2⟩ := chkC_ok hz
  have d31 := (md_bd (Y : Int) (M : Int)).2
  have hb0 : Below w.heap.size w (w.alloc (.cells #[.int .i64 Y, .int .i64 M, .int .i64 D, .int .i64 H, .int .i64 I, .int .i64 S, .int .i64 N] 23)) := (Below.refl _ _).alloc (Nat.le_refl _) _
  have hB : w.heap.size + 1 ≤ (w.alloc (.cells #[.int .i64 Y, .int .i64 M, .int .i64 D, .int .i64 H, .int .i64 I, .int .i64 S, .int .i64 N] 23)).heap.size := by simp
  have l1 := l.step hb0
  have CK := Check_any Y M D H I S N _ l1.laid
  rw [hz] at CK
  have C := hide CK
  have PY := hide (fun (W : World) (h : Below (w.heap.size + 1) (w.alloc (.cells #[.int .i64 Y, .int .i64 M, .int .i64 D, .int .i64 H, .int .i64 I, .int .i64 S, .int .i64 N] 23)) W) => based (P := Tryd.prog) hB (fun W h => pad_any Y 4 (by omega) (by omega) (by omega) (by omega) W (l1.under h (by have := l.laid.lt; omega) (by have := l.lt; omega))) W h)
  rw [show ((4 : Nat) : Int) = 4 from rfl] at PY
  have PM := hide (fun (W : World) (h : Below (w.heap.size + 1) (w.alloc (.cells #[.int .i64 Y, .int .i64 M, .int .i64 D, .int .i64 H, .int .i64 I, .int .i64 S, .int .i64 N] 23)) W) => based (P := Tryd.prog) hB (fun W h => pad_any M 2 (by omega) (by omega) (by omega) (by omega) W (l1.under h (by have := l.laid.lt; omega) (by have := l.lt; omega))) W h)
  rw [show ((2 : Nat) : Int) = 2 from rfl] at PM
  have PD := hide (fun (W : World) (h : Below (w.heap.size + 1) (w.alloc (.cells #[.int .i64 Y, .int .i64 M, .int .i64 D, .int .i64 H, .int .i64 I, .int .i64 S, .int .i64 N] 23)) W) => based (P := Tryd.prog) hB (fun W h => pad_any D 2 (by omega) (by omega) (by omega) (by omega) W (l1.under h (by have := l.laid.lt; omega) (by have := l.lt; omega))) W h)
  rw [show ((2 : Nat) : Int) = 2 from rfl] at PD
  have PH := hide (fun (W : World) (h : Below (w.heap.size + 1) (w.alloc (.cells #[.int .i64 Y, .int .i64 M, .int .i64 D, .int .i64 H, .int .i64 I, .int .i64 S, .int .i64 N] 23)) W) => based (P := Tryd.prog) hB (fun W h => pad_any H 2 (by omega) (by omega) (by omega) (by omega) W (l1.under h (by have := l.laid.lt; omega) (by have := l.lt; omega))) W h)
  rw [show ((2 : Nat) : Int) = 2 from rfl] at PH
  have PI := hide (fun (W : World) (h : Below (w.heap.size + 1) (w.alloc (.cells #[.int .i64 Y, .int .i64 M, .int .i64 D, .int .i64 H, .int .i64 I, .int .i64 S, .int .i64 N] 23)) W) => based (P := Tryd.prog) hB (fun W h => pad_any I 2 (by omega) (by omega) (by omega) (by omega) W (l1.under h (by have := l.laid.lt; omega) (by have := l.lt; omega))) W h)
  rw [show ((2 : Nat) : Int) = 2 from rfl] at PI
  have PS := hide (fun (W : World) (h : Below (w.heap.size + 1) (w.alloc (.cells #[.int .i64 Y, .int .i64 M, .int .i64 D, .int .i64 H, .int .i64 I, .int .i64 S, .int .i64 N] 23)) W) => based (P := Tryd.prog) hB (fun W h => pad_any S 2 (by omega) (by omega) (by omega) (by omega) W (l1.under h (by have := l.laid.lt; omega) (by have := l.lt; omega))) W h)
  rw [show ((2 : Nat) : Int) = 2 from rfl] at PS
  have PN := hide (fun (W : World) (h : Below (w.heap.size + 1) (w.alloc (.cells #[.int .i64 Y, .int .i64 M, .int .i64 D, .int .i64 H, .int .i64 I, .int .i64 S, .int .i64 N] 23)) W) => based (P := Tryd.prog) hB (fun W h => pad_any N 9 (by omega) (by omega) (by omega) (by omega) W (l1.under h (by have := l.laid.lt; omega) (by have := l.lt; omega))) W h)
  rw [show ((9 : Nat) : Int) = 9 from rfl] at PN
  have HT := hide (text_bytes Y M D H I S N)
  have LY := dgt_length 4 Y
  generalize dgt 4 Y = TY at *
  have LM := dgt_length 2 M
  generalize dgt 2 M = TM at *
  have LD := dgt_length 2 D
  generalize dgt 2 D = TD at *
  have LH := dgt_length 2 H
  generalize dgt 2 H = TH at *
  have LI := dgt_length 2 I
  generalize dgt 2 I = TI at *
  have LS := dgt_length 2 S
  generalize dgt 2 S = TS at *
  have LN := dgt_length 9 N
  generalize dgt 9 N = TN at *
  have K := hide (fun W h => cells7 (w := w) (x0 := .int .i64 Y) (x1 := .int .i64 M) (x2 := .int .i64 D) (x3 := .int .i64 H) (x4 := .int .i64 I) (x5 := .int .i64 S) (x6 := .int .i64 N) (T := 23) (W := W) h)
  clear CK hz a1 a2 b1 b2 c1 c2 d1 d2 f1 f2 g1 g2 k1 k2 d31 hb0 hB l1 l
  go_enter Tryd.func16, Tryd.ntmps16
  go_wp2_with fail
  refine C.out.mono ?_
  rintro e w1 ⟨rfl, hb⟩
  have hb2 := hb.mono (show w.heap.size + 1 ≤ _ by simp)
  obtain ⟨k0, k1, k2, k3, k4, k5, k6, _⟩ := K.out _ hb2
  clear hb C
  go_wp2
  go_region_held3 (fun W => W.cell? ⟨w.heap.size, 0, none⟩ = some (.int .i64 Y) ∧ W.cell? ⟨w.heap.size, 1, none⟩ = some (.int .i64 M) ∧ W.cell? ⟨w.heap.size, 2, none⟩ = some (.int .i64 D) ∧ W.cell? ⟨w.heap.size, 3, none⟩ = some (.int .i64 H) ∧ W.cell? ⟨w.heap.size, 4, none⟩ = some (.int .i64 I) ∧ W.cell? ⟨w.heap.size, 5, none⟩ = some (.int .i64 S) ∧ W.cell? ⟨w.heap.size, 6, none⟩ = some (.int .i64 N) ∧ Below (w.heap.size + 1) (w.alloc (.cells #[.int .i64 Y, .int .i64 M, .int .i64 D, .int .i64 H, .int .i64 I, .int .i64 S, .int .i64 N] 23)) W) (first | exact K.out _ (by assumption) | exact K.out _ (Below.drew (by assumption))) (first | (go_at_call 37; with_reducible refine (PY.out _ (by first | assumption | exact And.right (And.right (And.right (And.right (And.right (And.right (And.right (by assumption))))))))).mono ?_; rintro e w' ⟨rfl, hb⟩) | (go_at_call 37; with_reducible refine (PM.out _ (by first | assumption | exact And.right (And.right (And.right (And.right (And.right (And.right (And.right (by assumption))))))))).mono ?_; rintro e w' ⟨rfl, hb⟩) | (go_at_call 37; with_reducible refine (PD.out _ (by first | assumption | exact And.right (And.right (And.right (And.right (And.right (And.right (And.right (by assumption))))))))).mono ?_; rintro e w' ⟨rfl, hb⟩) | (go_at_call 37; with_reducible refine (PH.out _ (by first | assumption | exact And.right (And.right (And.right (And.right (And.right (And.right (And.right (by assumption))))))))).mono ?_; rintro e w' ⟨rfl, hb⟩) | (go_at_call 37; with_reducible refine (PI.out _ (by first | assumption | exact And.right (And.right (And.right (And.right (And.right (And.right (And.right (by assumption))))))))).mono ?_; rintro e w' ⟨rfl, hb⟩) | (go_at_call 37; with_reducible refine (PS.out _ (by first | assumption | exact And.right (And.right (And.right (And.right (And.right (And.right (And.right (by assumption))))))))).mono ?_; rintro e w' ⟨rfl, hb⟩) | (go_at_call 37; with_reducible refine (PN.out _ (by first | assumption | exact And.right (And.right (And.right (And.right (And.right (And.right (And.right (by assumption))))))))).mono ?_; rintro e w' ⟨rfl, hb⟩))
  go_wp2
  go_ret
  refine ⟨?_, box_below (by assumption)⟩
  rw [HT.out]
  rfl
theorem Text_any (y m d h mi s n : Int) (w : World) (l : Laid5 w) :
    Calls Tryd.prog 16 #[.agg #[.int .i64 y, .int .i64 m, .int .i64 d, .int .i64 h, .int .i64 mi, .int .i64 s, .int .i64 n]] w fun e w' => e = .returned (.string (textV y m d h mi s n)) ∧ Below w.heap.size w w' := by
  rcases chkC_two y m d h mi s n with hz | hz
  · have v := chkC_ok hz
    have e : textV y m d h mi s n = ⟨(textL y.toNat m.toNat d.toNat h.toNat mi.toNat s.toNat n.toNat).toArray⟩ := by unfold textV; rw [if_pos hz]
    rw [e]
    obtain ⟨a1, a2, b1, b2, c1, c2, d1, d2, f1, f2, g1, g2, k1, k2⟩ := v
    obtain ⟨Y, rfl⟩ : ∃ Y : Nat, y = (Y : Int) := ⟨y.toNat, by omega⟩
    obtain ⟨M, rfl⟩ : ∃ Y : Nat, m = (Y : Int) := ⟨m.toNat, by omega⟩
    obtain ⟨D, rfl⟩ : ∃ Y : Nat, d = (Y : Int) := ⟨d.toNat, by omega⟩
    obtain ⟨H, rfl⟩ : ∃ Y : Nat, h = (Y : Int) := ⟨h.toNat, by omega⟩
    obtain ⟨I, rfl⟩ : ∃ Y : Nat, mi = (Y : Int) := ⟨mi.toNat, by omega⟩
    obtain ⟨S, rfl⟩ : ∃ Y : Nat, s = (Y : Int) := ⟨s.toNat, by omega⟩
    obtain ⟨N, rfl⟩ : ∃ Y : Nat, n = (Y : Int) := ⟨n.toNat, by omega⟩
    simpa using Text_ok Y M D H I S N w l hz
  · have e : textV y m d h mi s n = ⟨#[]⟩ := by unfold textV; rw [if_neg (by rw [hz]; simp)]
    rw [e]
    have hb0 : Below w.heap.size w (w.alloc (.cells #[.int .i64 y, .int .i64 m, .int .i64 d, .int .i64 h, .int .i64 mi, .int .i64 s, .int .i64 n] 23)) := (Below.refl _ _).alloc (Nat.le_refl _) _
    have CK := Check_any y m d h mi s n _ (l.step hb0).laid
    rw [hz] at CK
    have C := hide CK
    have HB := hide hb0
    clear CK hz e hb0
    go_enter Tryd.func16, Tryd.ntmps16
    go_wp2_with fail
    refine C.out.mono ?_
    rintro e w1 ⟨rfl, hb⟩
    go_wp2
    go_ret
    exact ⟨rfl, HB.out.trans (hb.mono (by simp))⟩
set_option maxRecDepth 100000 in
set_option maxHeartbeats 6400000 in
theorem RText_ok (Y M D H I S N : Nat) (w : World) (hz : chkC Y M D H I S N = 0) :
    Calls Tryd.prog 17 #[.agg #[.int .i64 Y, .int .i64 M, .int .i64 D, .int .i64 H, .int .i64 I, .int .i64 S, .int .i64 N]] w fun e w' => e = .returned (.string ⟨(textL Y M D H I S N).toArray⟩) ∧ Below w.heap.size w w' := by
  obtain ⟨a1, a2, b1, b2, c1, c2, d1, d2, f1, f2, g1, g2, k1, k2⟩ := chkC_ok hz
  have d31 := (md_bd (Y : Int) (M : Int)).2
  have hb0 : Below w.heap.size w (w.alloc (.cells #[.int .i64 Y, .int .i64 M, .int .i64 D, .int .i64 H, .int .i64 I, .int .i64 S, .int .i64 N] 23)) := (Below.refl _ _).alloc (Nat.le_refl _) _
  have hB : w.heap.size + 1 ≤ (w.alloc (.cells #[.int .i64 Y, .int .i64 M, .int .i64 D, .int .i64 H, .int .i64 I, .int .i64 S, .int .i64 N] 23)).heap.size := by simp
  have CK := RCheck_any Y M D H I S N (w.alloc (.cells #[.int .i64 Y, .int .i64 M, .int .i64 D, .int .i64 H, .int .i64 I, .int .i64 S, .int .i64 N] 23))
  rw [hz] at CK
  have C := hide CK
  have PY := hide (fun (W : World) => digits_any Y 4 (by omega) (by omega) W)
  rw [show ((4 : Nat) : Int) = 4 from rfl] at PY
  have PM := hide (fun (W : World) => digits_any M 2 (by omega) (by omega) W)
  rw [show ((2 : Nat) : Int) = 2 from rfl] at PM
  have PD := hide (fun (W : World) => digits_any D 2 (by omega) (by omega) W)
  rw [show ((2 : Nat) : Int) = 2 from rfl] at PD
  have PH := hide (fun (W : World) => digits_any H 2 (by omega) (by omega) W)
  rw [show ((2 : Nat) : Int) = 2 from rfl] at PH
  have PI := hide (fun (W : World) => digits_any I 2 (by omega) (by omega) W)
  rw [show ((2 : Nat) : Int) = 2 from rfl] at PI
  have PS := hide (fun (W : World) => digits_any S 2 (by omega) (by omega) W)
  rw [show ((2 : Nat) : Int) = 2 from rfl] at PS
  have PN := hide (fun (W : World) => digits_any N 9 (by omega) (by omega) W)
  rw [show ((9 : Nat) : Int) = 9 from rfl] at PN
  have HT := hide (text_bytes Y M D H I S N)
  have LY := dgt_length 4 Y
  generalize dgt 4 Y = TY at *
  have LM := dgt_length 2 M
  generalize dgt 2 M = TM at *
  have LD := dgt_length 2 D
  generalize dgt 2 D = TD at *
  have LH := dgt_length 2 H
  generalize dgt 2 H = TH at *
  have LI := dgt_length 2 I
  generalize dgt 2 I = TI at *
  have LS := dgt_length 2 S
  generalize dgt 2 S = TS at *
  have LN := dgt_length 9 N
  generalize dgt 9 N = TN at *
  have K := hide (fun W h => cells7 (w := w) (x0 := .int .i64 Y) (x1 := .int .i64 M) (x2 := .int .i64 D) (x3 := .int .i64 H) (x4 := .int .i64 I) (x5 := .int .i64 S) (x6 := .int .i64 N) (T := 23) (W := W) h)
  clear CK hz a1 a2 b1 b2 c1 c2 d1 d2 f1 f2 g1 g2 k1 k2 d31 hb0 hB
  go_enter Tryd.func17, Tryd.ntmps17
  go_wp2_with fail
  refine C.out.mono ?_
  rintro e w1 ⟨rfl, hb⟩
  have hb2 := hb.mono (show w.heap.size + 1 ≤ _ by simp)
  obtain ⟨k0, k1, k2, k3, k4, k5, k6, _⟩ := K.out _ hb2
  clear hb C
  go_wp2
  go_region_held3 (fun W => W.cell? ⟨w.heap.size, 0, none⟩ = some (.int .i64 Y) ∧ W.cell? ⟨w.heap.size, 1, none⟩ = some (.int .i64 M) ∧ W.cell? ⟨w.heap.size, 2, none⟩ = some (.int .i64 D) ∧ W.cell? ⟨w.heap.size, 3, none⟩ = some (.int .i64 H) ∧ W.cell? ⟨w.heap.size, 4, none⟩ = some (.int .i64 I) ∧ W.cell? ⟨w.heap.size, 5, none⟩ = some (.int .i64 S) ∧ W.cell? ⟨w.heap.size, 6, none⟩ = some (.int .i64 N) ∧ Below (w.heap.size + 1) (w.alloc (.cells #[.int .i64 Y, .int .i64 M, .int .i64 D, .int .i64 H, .int .i64 I, .int .i64 S, .int .i64 N] 23)) W) (first | exact K.out _ (by assumption) | exact K.out _ (Below.drew (by assumption))) (first | (go_at_call 38; with_reducible refine (PY.out _).mono ?_; rintro e w' ⟨rfl, rfl⟩) | (go_at_call 38; with_reducible refine (PM.out _).mono ?_; rintro e w' ⟨rfl, rfl⟩) | (go_at_call 38; with_reducible refine (PD.out _).mono ?_; rintro e w' ⟨rfl, rfl⟩) | (go_at_call 38; with_reducible refine (PH.out _).mono ?_; rintro e w' ⟨rfl, rfl⟩) | (go_at_call 38; with_reducible refine (PI.out _).mono ?_; rintro e w' ⟨rfl, rfl⟩) | (go_at_call 38; with_reducible refine (PS.out _).mono ?_; rintro e w' ⟨rfl, rfl⟩) | (go_at_call 38; with_reducible refine (PN.out _).mono ?_; rintro e w' ⟨rfl, rfl⟩))
  go_wp2
  go_ret
  refine ⟨?_, box_below hb2.drew⟩
  rw [HT.out]
  rfl
theorem RText_any (y m d h mi s n : Int) (w : World) :
    Calls Tryd.prog 17 #[.agg #[.int .i64 y, .int .i64 m, .int .i64 d, .int .i64 h, .int .i64 mi, .int .i64 s, .int .i64 n]] w fun e w' => e = .returned (.string (textV y m d h mi s n)) ∧ Below w.heap.size w w' := by
  rcases chkC_two y m d h mi s n with hz | hz
  · have v := chkC_ok hz
    have e : textV y m d h mi s n = ⟨(textL y.toNat m.toNat d.toNat h.toNat mi.toNat s.toNat n.toNat).toArray⟩ := by unfold textV; rw [if_pos hz]
    rw [e]
    obtain ⟨a1, a2, b1, b2, c1, c2, d1, d2, f1, f2, g1, g2, k1, k2⟩ := v
    obtain ⟨Y, rfl⟩ : ∃ Y : Nat, y = (Y : Int) := ⟨y.toNat, by omega⟩
    obtain ⟨M, rfl⟩ : ∃ Y : Nat, m = (Y : Int) := ⟨m.toNat, by omega⟩
    obtain ⟨D, rfl⟩ : ∃ Y : Nat, d = (Y : Int) := ⟨d.toNat, by omega⟩
    obtain ⟨H, rfl⟩ : ∃ Y : Nat, h = (Y : Int) := ⟨h.toNat, by omega⟩
    obtain ⟨I, rfl⟩ : ∃ Y : Nat, mi = (Y : Int) := ⟨mi.toNat, by omega⟩
    obtain ⟨S, rfl⟩ : ∃ Y : Nat, s = (Y : Int) := ⟨s.toNat, by omega⟩
    obtain ⟨N, rfl⟩ : ∃ Y : Nat, n = (Y : Int) := ⟨n.toNat, by omega⟩
    simpa using RText_ok Y M D H I S N w hz
  · have e : textV y m d h mi s n = ⟨#[]⟩ := by unfold textV; rw [if_neg (by rw [hz]; simp)]
    rw [e]
    have hb0 : Below w.heap.size w (w.alloc (.cells #[.int .i64 y, .int .i64 m, .int .i64 d, .int .i64 h, .int .i64 mi, .int .i64 s, .int .i64 n] 23)) := (Below.refl _ _).alloc (Nat.le_refl _) _
    have CK := RCheck_any y m d h mi s n (w.alloc (.cells #[.int .i64 y, .int .i64 m, .int .i64 d, .int .i64 h, .int .i64 mi, .int .i64 s, .int .i64 n] 23))
    rw [hz] at CK
    have C := hide CK
    have HB := hide hb0
    clear CK hz e hb0
    go_enter Tryd.func17, Tryd.ntmps17
    go_wp2_with fail
    refine C.out.mono ?_
    rintro e w1 ⟨rfl, hb⟩
    go_wp2
    go_ret
    exact ⟨rfl, HB.out.trans (hb.mono (by simp))⟩
end Go.Proofs.YtbhpceghgjognaaDoor.Civ
