/- Layer 5: Parse of the package. -/
import Derived.Test.YtbhpceghgjognaaDoorCivM
namespace Go.Proofs.YtbhpceghgjognaaDoor.Civ
open Go.RowKit Aid
structure Box7 (W : World) (b : Nat) (x0 x1 x2 x3 x4 x5 x6 : Int) : Prop where
  c0 : W.cell? ⟨b, 0, none⟩ = some (.int .i64 x0)
  c1 : W.cell? ⟨b, 1, none⟩ = some (.int .i64 x1)
  c2 : W.cell? ⟨b, 2, none⟩ = some (.int .i64 x2)
  c3 : W.cell? ⟨b, 3, none⟩ = some (.int .i64 x3)
  c4 : W.cell? ⟨b, 4, none⟩ = some (.int .i64 x4)
  c5 : W.cell? ⟨b, 5, none⟩ = some (.int .i64 x5)
  c6 : W.cell? ⟨b, 6, none⟩ = some (.int .i64 x6)
  f : ∀ o, W.frozen? ⟨b, o, none⟩ = false
  lt : b < W.heap.size
theorem Box7.under {W W' : World} {B b : Nat} {x0 x1 x2 x3 x4 x5 x6 : Int} (t : Box7 W b x0 x1 x2 x3 x4 x5 x6) (h : Below B W W') (hb : b < B) : Box7 W' b x0 x1 x2 x3 x4 x5 x6 := by
  have l := t.lt
  have c : ∀ j, W'.cell? ⟨b, j, none⟩ = W.cell? ⟨b, j, none⟩ := fun j => h.cell (p := ⟨b, j, none⟩) hb
  have f' : ∀ j, W'.frozen? ⟨b, j, none⟩ = W.frozen? ⟨b, j, none⟩ := fun j => h.frozen (p := ⟨b, j, none⟩) hb
  have := h.size
  exact ⟨(c 0).trans t.c0, (c 1).trans t.c1, (c 2).trans t.c2, (c 3).trans t.c3, (c 4).trans t.c4, (c 5).trans t.c5, (c 6).trans t.c6, fun o => (f' o).trans (t.f o), by omega⟩
theorem Box7.step {W W' : World} {b : Nat} {x0 x1 x2 x3 x4 x5 x6 : Int} (t : Box7 W b x0 x1 x2 x3 x4 x5 x6) (h : Below W.heap.size W W') : Box7 W' b x0 x1 x2 x3 x4 x5 x6 := t.under h t.lt
theorem Box7.new (W : World) (x0 x1 x2 x3 x4 x5 x6 : Int) : Box7 (W.alloc (.cells #[.int .i64 x0, .int .i64 x1, .int .i64 x2, .int .i64 x3, .int .i64 x4, .int .i64 x5, .int .i64 x6] 23)) W.heap.size x0 x1 x2 x3 x4 x5 x6 := by
  constructor <;> simp [go_sem]
theorem digs_of {s : ByteArray} (h : Formed s) {a n : Nat} (hn : a + n ≤ 30) (hf : ∀ k, k < n → formN (a + k) = 48) : Digs s a n := by
  intro k hk
  have hs := h.1
  have h1 : a + k < s.size := by omega
  rcases h.2 (a + k) (by omega) h1 with ⟨_, h2, h3⟩ | ⟨h2, _⟩
  · rw [byt_at h1] at h2 h3; exact ⟨h2, h3⟩
  · exact absurd (hf k hk) h2
theorem digs_all {s : ByteArray} (h : Formed s) : Digs s 0 4 ∧ Digs s 5 2 ∧ Digs s 8 2 ∧ Digs s 11 2 ∧ Digs s 14 2 ∧ Digs s 17 2 ∧ Digs s 20 9 :=
  ⟨digs_of h (by omega) (by decide), digs_of h (by omega) (by decide), digs_of h (by omega) (by decide), digs_of h (by omega) (by decide), digs_of h (by omega) (by decide), digs_of h (by omega) (by decide), digs_of h (by omega) (by decide)⟩
def chkP (s : ByteArray) : Int := chkC (valT s 0 4 : Nat) (valT s 5 2 : Nat) (valT s 8 2 : Nat) (valT s 11 2 : Nat) (valT s 14 2 : Nat) (valT s 17 2 : Nat) (valT s 20 9 : Nat)
def parV (s : ByteArray) : Value := .agg #[.int .i64 (valT s 0 4 : Nat), .int .i64 (valT s 5 2 : Nat), .int .i64 (valT s 8 2 : Nat), .int .i64 (valT s 11 2 : Nat), .int .i64 (valT s 14 2 : Nat), .int .i64 (valT s 17 2 : Nat), .int .i64 (valT s 20 9 : Nat)]
theorem Parse_bad (s : ByteArray) (w : World) (h : ¬ Formed s) :
    Calls Tryd.prog 14 #[.string s] w fun e w' => e = .returned (.tuple #[zeroV, .int .i64 19]) ∧ Below w.heap.size w w' := by
  have F := hide fun W => formed_any s false (by simp [h]) W
  have hb0 : Below w.heap.size w ((w.alloc (.cells #[.string s] 9)).alloc Z7) := ((Below.refl _ _).alloc (Nat.le_refl _) _).alloc (by simp) _
  have HB := hide hb0
  clear hb0
  go_enter Tryd.func14, Tryd.ntmps14
  go_wp2_with fail
  refine (F.out _).mono ?_
  rintro e w' ⟨rfl, n, rfl⟩
  go_wp2
  refine bodyPost_ret (v := .tuple #[zeroV, .int .i64 19]) (by simp [results, Tryd.results14, go_sem, zeroV]) rfl ?_
  refine ⟨rfl, ?_⟩
  repeat (with_reducible refine Below.setCell ?_ (by simp) _)
  exact below_drewN HB.out _
set_option maxRecDepth 100000 in
set_option maxHeartbeats 3200000 in
theorem Parse_good (s : ByteArray) (w : World) (l : Laid w) (h : Formed s) (k : Int) (hk : chkP s = k) :
    Calls Tryd.prog 14 #[.string s] w fun e w' => e = .returned (.tuple #[if k = 0 then parV s else zeroV, .int .i64 k]) ∧ Below w.heap.size w w' := by
  have F := hide fun W => formed_any s true (by simp [h]) W
  have hs := h.1
  obtain ⟨g0, g1, g2, g3, g4, g5, g6⟩ := digs_all h
  have hb0 : Below w.heap.size w ((w.alloc (.cells #[.string s] 9)).alloc Z7) := ((Below.refl _ _).alloc (Nat.le_refl _) _).alloc (by simp) _
  have hB : w.heap.size + 2 ≤ ((w.alloc (.cells #[.string s] 9)).alloc Z7).heap.size := by simp
  have KS : ∀ W, Below (w.heap.size + 2) ((w.alloc (.cells #[.string s] 9)).alloc Z7) W → W.cell? ⟨w.heap.size, 0, none⟩ = some (.string s) := fun W h => (h.cell (p := ⟨w.heap.size, 0, none⟩) (by simp)).trans (by simp [go_sem])
  have f0 := based hB fun W hW => field_any s 0 4 4 w.heap.size W rfl (by omega) (by omega) hs g0 (KS W hW)
  have f1 := based hB fun W hW => field_any s 5 2 7 w.heap.size W rfl (by omega) (by omega) hs g1 (KS W hW)
  have f2 := based hB fun W hW => field_any s 8 2 10 w.heap.size W rfl (by omega) (by omega) hs g2 (KS W hW)
  have f3 := based hB fun W hW => field_any s 11 2 13 w.heap.size W rfl (by omega) (by omega) hs g3 (KS W hW)
  have f4 := based hB fun W hW => field_any s 14 2 16 w.heap.size W rfl (by omega) (by omega) hs g4 (KS W hW)
  have f5 := based hB fun W hW => field_any s 17 2 19 w.heap.size W rfl (by omega) (by omega) hs g5 (KS W hW)
  have f6 := based hB fun W hW => field_any s 20 9 29 w.heap.size W rfl (by omega) (by omega) hs g6 (KS W hW)
  rw [show ((0 : Nat) : Int) = 0 from rfl, show ((4 : Nat) : Int) = 4 from rfl] at f0
  rw [show ((5 : Nat) : Int) = 5 from rfl, show ((7 : Nat) : Int) = 7 from rfl] at f1
  rw [show ((8 : Nat) : Int) = 8 from rfl, show ((10 : Nat) : Int) = 10 from rfl] at f2
  rw [show ((11 : Nat) : Int) = 11 from rfl, show ((13 : Nat) : Int) = 13 from rfl] at f3
  rw [show ((14 : Nat) : Int) = 14 from rfl, show ((16 : Nat) : Int) = 16 from rfl] at f4
  rw [show ((17 : Nat) : Int) = 17 from rfl, show ((19 : Nat) : Int) = 19 from rfl] at f5
  rw [show ((20 : Nat) : Int) = 20 from rfl, show ((29 : Nat) : Int) = 29 from rfl] at f6
  have C := fun W (hW : Below (w.heap.size + 2) ((w.alloc (.cells #[.string s] 9)).alloc Z7) W) => Check_any (valT s 0 4 : Nat) (valT s 5 2 : Nat) (valT s 8 2 : Nat) (valT s 11 2 : Nat) (valT s 14 2 : Nat) (valT s 17 2 : Nat) (valT s 20 9 : Nat) W ((l.step hb0).step (hW.mono (by simp)))
  unfold chkP at hk
  rw [hk] at C
  have HPV : Hid (parV s = .agg #[.int .i64 (valT s 0 4 : Nat), .int .i64 (valT s 5 2 : Nat), .int .i64 (valT s 8 2 : Nat), .int .i64 (valT s 11 2 : Nat), .int .i64 (valT s 14 2 : Nat), .int .i64 (valT s 17 2 : Nat), .int .i64 (valT s 20 9 : Nat)]) := hide rfl
  generalize parV s = pv at *
  generalize valT s 0 4 = y at *
  generalize valT s 5 2 = m at *
  generalize valT s 8 2 = d at *
  generalize valT s 11 2 = hh at *
  generalize valT s 14 2 = mi at *
  generalize valT s 17 2 = ss at *
  generalize valT s 20 9 = nn at *
  have F0 := hide f0
  have F1 := hide f1
  have F2 := hide f2
  have F3 := hide f3
  have F4 := hide f4
  have F5 := hide f5
  have F6 := hide f6
  have HC := hide C
  have HB := hide hb0
  have t0 := Box7.new (w.alloc (.cells #[.string s] 9)) 0 0 0 0 0 0 0
  rw [show (w.alloc (.cells #[.string s] 9)).heap.size = w.heap.size + 1 by simp] at t0
  have T := hide t0
  clear t0
  clear f0 f1 f2 f3 f4 f5 f6 C hb0 KS hB l h hs g0 g1 g2 g3 g4 g5 g6 hk
  go_enter Tryd.func14, Tryd.ntmps14
  go_wp2_with fail
  refine (F.out _).mono ?_
  rintro e w' ⟨rfl, n, rfl⟩
  have hb := below_drewN (Below.refl (w.heap.size + 2) ((w.alloc (.cells #[.string s] 9)).alloc Z7)) n
  go_wp2_with fail
  with_reducible refine (F0.out _ hb).mono ?_
  rintro e w0 ⟨rfl, hb⟩
  go_wp2_with fail
  with_reducible refine (F1.out _ hb).mono ?_
  rintro e w1 ⟨rfl, hb⟩
  go_wp2_with fail
  with_reducible refine (F2.out _ hb).mono ?_
  rintro e w2 ⟨rfl, hb⟩
  go_wp2_with fail
  with_reducible refine (F3.out _ hb).mono ?_
  rintro e w3 ⟨rfl, hb⟩
  go_wp2_with fail
  with_reducible refine (F4.out _ hb).mono ?_
  rintro e w4 ⟨rfl, hb⟩
  go_wp2_with fail
  with_reducible refine (F5.out _ hb).mono ?_
  rintro e w5 ⟨rfl, hb⟩
  go_wp2_with fail
  with_reducible refine (F6.out _ hb).mono ?_
  rintro e w6 ⟨rfl, hb⟩
  have U := T.out.under (B := w.heap.size + 2) hb (by omega)
  have U2 := U.step ((Below.refl _ _).alloc (Nat.le_refl _) (.cells #[.int .i64 y, .int .i64 m, .int .i64 d, .int .i64 hh, .int .i64 mi, .int .i64 ss, .int .i64 nn] 23))
  have V := Box7.new w6 y m d hh mi ss nn
  have HU := hide U2
  have HV := hide V
  have hb7 := hb.alloc (show w.heap.size + 2 ≤ w6.heap.size from Nat.le_trans (by simp) hb.size) (.cells #[.int .i64 y, .int .i64 m, .int .i64 d, .int .i64 hh, .int .i64 mi, .int .i64 ss, .int .i64 nn] 23)
  have HB7 := hide hb7
  have G := hide (HC.out _ hb7)
  clear U U2 V hb7 HC F0 F1 F2 F3 F4 F5 F6 F
  go_wp2_with fail
  with_reducible refine G.out.mono ?_
  rintro e w8 ⟨rfl, hb8⟩
  have X := HU.out.step hb8
  have Y := HV.out.step hb8
  have HW := hide (HB.out.trans ((HB7.out.mono (by omega)).trans (hb8.mono (by have := HB7.out.size; simp at this; simp; omega))))
  have HX := hide X
  obtain ⟨x0, x1, x2, x3, x4, x5, x6, xf, xlt⟩ := X
  obtain ⟨y0, y1, y2, y3, y4, y5, y6, yf, ylt⟩ := Y
  by_cases h0 : k = 0
  · subst h0
    go_wp2
    refine bodyPost_ret (v := .tuple #[pv, .int .i64 0]) (by simp [results, Tryd.results14, go_sem, HPV.out, x0, x1, x2, x3, x4, x5, x6, xf]) rfl ?_
    refine ⟨rfl, ?_⟩
    repeat (with_reducible refine Below.setCell ?_ (by simp) _)
    exact HW.out
  · have hk1 : (k != 0) = true := by simpa using h0
    go_wp2
    refine bodyPost_ret (v := .tuple #[zeroV, .int .i64 k]) (by simp [results, Tryd.results14, go_sem, zeroV, x0, x1, x2, x3, x4, x5, x6, xf]) rfl ?_
    refine ⟨rfl, ?_⟩
    repeat (with_reducible refine Below.setCell ?_ (by simp) _)
    exact HW.out
end Go.Proofs.YtbhpceghgjognaaDoor.Civ
