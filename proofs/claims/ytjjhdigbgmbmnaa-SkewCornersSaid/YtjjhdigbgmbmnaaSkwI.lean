/- The contracts of layer 52: the bounds that two gates give, and the ends over every two gates. -/
import Derived.Test.YtjjhdigbgmbmnaaSkwH
import Derived.Test.YtjjhdigbgmbmnaaKp
import Derived.Deep.RegionHeld3
namespace Go.Proofs.Ytjjhdigbgmbmnaa.Skw
open Go.RowKit Aid Fx
def gateV (x l h : Int) : Value := .agg #[.int .i64 x, .int .i64 l, .int .i64 h]
def ratV (n d : Int) : Value := .agg #[.int .i64 n, .int .i64 d]
set_option maxRecDepth 100000 in
set_option maxHeartbeats 3200000 in
theorem slopes1_any (ax al ah bx bl bh : Int) (w : World) (ha : InR ax al ah) (hb : InR bx bl bh) :
    Calls Try.prog 42 #[.agg #[.int .i64 ax, .int .i64 al, .int .i64 ah], .agg #[.int .i64 bx, .int .i64 bl, .int .i64 bh]] w fun e w' => e = .returned (.tuple #[.agg #[.int .i64 (bl - ah), .int .i64 (bx - ax)], .agg #[.int .i64 (bh - al), .int .i64 (bx - ax)]]) ∧ Below w.heap.size w w' := by
  obtain ⟨W0, hW0⟩ : ∃ W0, W0 = ((((w.alloc (.cells #[.int .i64 ax, .int .i64 al, .int .i64 ah] 43)).alloc (.cells #[.int .i64 bx, .int .i64 bl, .int .i64 bh] 43)).alloc (.cells #[.int .i64 0, .int .i64 0] 26)).alloc (.cells #[.int .i64 0, .int .i64 0] 26)) := ⟨_, rfl⟩
  have HH := hide hW0
  have HB : Hid (Below w.heap.size w W0) := hide (by rw [hW0]; exact (((((Below.refl _ _).alloc (Nat.le_refl _) _).alloc (by simp) _).alloc (by simp; omega) _).alloc (by simp; omega) _))
  have a0 : W0.cell? ⟨w.heap.size, 0, none⟩ = some (.int .i64 ax) := by rw [hW0]; simp [go_sem]
  have a1 : W0.cell? ⟨w.heap.size, 1, none⟩ = some (.int .i64 al) := by rw [hW0]; simp [go_sem]
  have a2 : W0.cell? ⟨w.heap.size, 2, none⟩ = some (.int .i64 ah) := by rw [hW0]; simp [go_sem]
  have b0 : W0.cell? ⟨w.heap.size + 1, 0, none⟩ = some (.int .i64 bx) := by rw [hW0]; simp [go_sem]
  have b1 : W0.cell? ⟨w.heap.size + 1, 1, none⟩ = some (.int .i64 bl) := by rw [hW0]; simp [go_sem]
  have b2 : W0.cell? ⟨w.heap.size + 1, 2, none⟩ = some (.int .i64 bh) := by rw [hW0]; simp [go_sem]
  have c0 : W0.cell? ⟨w.heap.size + 1 + 1, 0, none⟩ = some (.int .i64 0) := by rw [hW0]; simp [go_sem]
  have c1 : W0.cell? ⟨w.heap.size + 1 + 1, 1, none⟩ = some (.int .i64 0) := by rw [hW0]; simp [go_sem]
  have d0 : W0.cell? ⟨w.heap.size + 1 + 1 + 1, 0, none⟩ = some (.int .i64 0) := by rw [hW0]; simp [go_sem]
  have d1 : W0.cell? ⟨w.heap.size + 1 + 1 + 1, 1, none⟩ = some (.int .i64 0) := by rw [hW0]; simp [go_sem]
  have cf : ∀ i, W0.frozen? ⟨w.heap.size + 1 + 1, i, none⟩ = false := fun i => by rw [hW0]; simp [go_sem]
  have df : ∀ i, W0.frozen? ⟨w.heap.size + 1 + 1 + 1, i, none⟩ = false := fun i => by rw [hW0]; simp [go_sem]
  obtain ⟨x1, x2, x3, x4, x5, x6⟩ := ha
  obtain ⟨y1, y2, y3, y4, y5, y6⟩ := hb
  have hz : W0.heap.size = w.heap.size + 4 := by rw [hW0]; simp
  have v1 : IntKind.i64.wrap (bx - ax) = bx - ax := IntWalk.i64_in _ (by omega)
  have v2 : IntKind.i64.wrap (bl - ah) = bl - ah := IntWalk.i64_in _ (by omega)
  have v3 : IntKind.i64.wrap (bh - al) = bh - al := IntWalk.i64_in _ (by omega)
  clear hW0
  go_enter Try.func42, Try.ntmps42
  go_upto_region 2 with fail
  rw [← HH.out]
  have HK := hide (fun W (q : Kp (fun x => x = w.heap.size + 1 + 1 ∨ x = w.heap.size + 1 + 1 + 1) W0.heap.size W0 W) => And.intro ((q.cell (k := w.heap.size) (o := 0) (by omega) (by omega)).trans a0) (And.intro ((q.cell (k := w.heap.size) (o := 1) (by omega) (by omega)).trans a1) (And.intro ((q.cell (k := w.heap.size) (o := 2) (by omega) (by omega)).trans a2)
    (And.intro ((q.cell (k := w.heap.size + 1) (o := 0) (by omega) (by omega)).trans b0) (And.intro ((q.cell (k := w.heap.size + 1) (o := 1) (by omega) (by omega)).trans b1) ((q.cell (k := w.heap.size + 1) (o := 2) (by omega) (by omega)).trans b2))))))
  go_region_held3 (fun W => W.cell? ⟨w.heap.size, 0, none⟩ = some (.int .i64 ax) ∧ W.cell? ⟨w.heap.size, 1, none⟩ = some (.int .i64 al) ∧ W.cell? ⟨w.heap.size, 2, none⟩ = some (.int .i64 ah) ∧ W.cell? ⟨w.heap.size + 1, 0, none⟩ = some (.int .i64 bx) ∧ W.cell? ⟨w.heap.size + 1, 1, none⟩ = some (.int .i64 bl) ∧ W.cell? ⟨w.heap.size + 1, 2, none⟩ = some (.int .i64 bh))
    (exact HK.out _ (by repeat (first | exact Kp.refl _ _ _ | with_reducible refine Kp.setCell ?_ (by dsimp only; omega) _ | with_reducible refine Kp.drew ?_ | with_reducible refine Kp.drewN ?_ _))) (first | fail)
  all_goals
    go_wp2
    refine bodyPost_ret (v := .tuple #[.agg #[.int .i64 (bl - ah), .int .i64 (bx - ax)], .agg #[.int .i64 (bh - al), .int .i64 (bx - ax)]]) (by simp [results, Try.results42, go_sem, *]; try omega) rfl ?_
    refine ⟨rfl, ?_⟩
    repeat (first | with_reducible refine Below.drew ?_ | with_reducible refine Below.setCell ?_ (by first | (dsimp only; omega) | (simp; omega)) _ | exact HB.out)
/-- a box that holds a fraction -/
def RatAt (w : World) (g : Nat) (n d : Int) : Prop := w.heap[g]? = some (.cells #[.int .i64 n, .int .i64 d] 26 (0, 0))
theorem RatAt.cells {w : World} {g : Nat} {n d : Int} (h : RatAt w g n d) : w.cell? ⟨g, 0, none⟩ = some (.int .i64 n) ∧ w.cell? ⟨g, 1, none⟩ = some (.int .i64 d) ∧ ∀ i, w.frozen? ⟨g, i, none⟩ = false :=
  ⟨cell_of_row w g 0 _ _ _ h, cell_of_row w g 1 _ _ _ h, fun i => by unfold RatAt at h; simp [World.frozen?, h]⟩
theorem RatAt.lt {w : World} {g : Nat} {n d : Int} (h : RatAt w g n d) : g < w.heap.size := by
  unfold RatAt at h
  rcases Nat.lt_or_ge g w.heap.size with hlt | hge
  · exact hlt
  · rw [Array.getElem?_eq_none hge] at h; cases h
theorem RatAt.step {w w' : World} {g : Nat} {n d : Int} (h : RatAt w g n d) (hb : Below w.heap.size w w') : RatAt w' g n d := (hb.block g h.lt).trans h
theorem RatAt.put {w : World} {g : Nat} {n d : Int} (h : RatAt w g n d) (n' d' : Int) : RatAt ((w.setCell ⟨g, 0, none⟩ (.int .i64 n')).setCell ⟨g, 1, none⟩ (.int .i64 d')) g n' d' := by
  unfold RatAt at *
  simp [World.setCell, Array.getElem?_modify, h]
theorem RatAt.other {w : World} {g g' : Nat} {n d : Int} (h : RatAt w g n d) (hn : g ≠ g') (u v : Value) : RatAt ((w.setCell ⟨g', 0, none⟩ u).setCell ⟨g', 1, none⟩ v) g n d := by
  unfold RatAt at *
  rw [Below.heap_setCell _ _ _ _ hn, Below.heap_setCell _ _ _ _ hn]
  exact h
theorem RatAt.new (w : World) (n d : Int) : RatAt (w.alloc (.cells #[.int .i64 n, .int .i64 d] 26)) w.heap.size n d := heap_alloc_new w _
/-- a bound met so far: it is one of the family, and none of those looked at is beyond it -/
structure TopSo (N D : Nat → Nat → Int) (n : Nat) (seen : Nat → Nat → Prop) (p q : Int) : Prop where
  i : ∃ i j, i < j ∧ j < n ∧ N i j = p ∧ D i j = q
  h : ∀ i j, i < j → j < n → seen i j → Rat.divInt (N i j) (D i j) ≤ Rat.divInt p q
structure BotSo (N D : Nat → Nat → Int) (n : Nat) (seen : Nat → Nat → Prop) (p q : Int) : Prop where
  i : ∃ i j, i < j ∧ j < n ∧ N i j = p ∧ D i j = q
  h : ∀ i j, i < j → j < n → seen i j → Rat.divInt p q ≤ Rat.divInt (N i j) (D i j)
theorem TopSo.keep {N D : Nat → Nat → Int} {n : Nat} {S T : Nat → Nat → Prop} {p q : Int} {i j : Nat} (h : TopSo N D n S p q) (hs : ∀ a b, T a b → S a b ∨ (a = i ∧ b = j)) (hc : Rat.divInt (N i j) (D i j) ≤ Rat.divInt p q) : TopSo N D n T p q :=
  ⟨h.i, fun a b h1 h2 h3 => by
    rcases hs a b h3 with k | ⟨rfl, rfl⟩
    · exact h.h a b h1 h2 k
    · exact hc⟩
theorem TopSo.turn {N D : Nat → Nat → Int} {n : Nat} {S T : Nat → Nat → Prop} {p q : Int} {i j : Nat} (h : TopSo N D n S p q) (hij : i < j) (hj : j < n) (hs : ∀ a b, T a b → S a b ∨ (a = i ∧ b = j)) (hc : Rat.divInt p q < Rat.divInt (N i j) (D i j)) : TopSo N D n T (N i j) (D i j) :=
  ⟨⟨i, j, hij, hj, rfl, rfl⟩, fun a b h1 h2 h3 => by
    rcases hs a b h3 with k | ⟨rfl, rfl⟩
    · exact Rat.le_trans (h.h a b h1 h2 k) (Rat.le_of_lt hc)
    · exact Rat.le_refl⟩
theorem BotSo.keep {N D : Nat → Nat → Int} {n : Nat} {S T : Nat → Nat → Prop} {p q : Int} {i j : Nat} (h : BotSo N D n S p q) (hs : ∀ a b, T a b → S a b ∨ (a = i ∧ b = j)) (hc : Rat.divInt p q ≤ Rat.divInt (N i j) (D i j)) : BotSo N D n T p q :=
  ⟨h.i, fun a b h1 h2 h3 => by
    rcases hs a b h3 with k | ⟨rfl, rfl⟩
    · exact h.h a b h1 h2 k
    · exact hc⟩
theorem BotSo.turn {N D : Nat → Nat → Int} {n : Nat} {S T : Nat → Nat → Prop} {p q : Int} {i j : Nat} (h : BotSo N D n S p q) (hij : i < j) (hj : j < n) (hs : ∀ a b, T a b → S a b ∨ (a = i ∧ b = j)) (hc : Rat.divInt (N i j) (D i j) < Rat.divInt p q) : BotSo N D n T (N i j) (D i j) :=
  ⟨⟨i, j, hij, hj, rfl, rfl⟩, fun a b h1 h2 h3 => by
    rcases hs a b h3 with k | ⟨rfl, rfl⟩
    · exact Rat.le_trans (Rat.le_of_lt hc) (h.h a b h1 h2 k)
    · exact Rat.le_refl⟩
theorem TopSo.all {N D : Nat → Nat → Int} {n : Nat} {S : Nat → Nat → Prop} {p q : Int} (h : TopSo N D n S p q) (hs : ∀ a b, a < b → b < n → S a b) : IsTop (fun i j => Rat.divInt (N i j) (D i j)) n (Rat.divInt p q) := by
  obtain ⟨i, j, h1, h2, h3, h4⟩ := h.i
  exact ⟨⟨i, j, h1, h2, by show Rat.divInt (N i j) (D i j) = _; rw [h3, h4]⟩, fun a b x y => h.h a b x y (hs a b x y)⟩
theorem BotSo.all {N D : Nat → Nat → Int} {n : Nat} {S : Nat → Nat → Prop} {p q : Int} (h : BotSo N D n S p q) (hs : ∀ a b, a < b → b < n → S a b) : IsBot (fun i j => Rat.divInt (N i j) (D i j)) n (Rat.divInt p q) := by
  obtain ⟨i, j, h1, h2, h3, h4⟩ := h.i
  exact ⟨⟨i, j, h1, h2, by show Rat.divInt (N i j) (D i j) = _; rw [h3, h4]⟩, fun a b x y => h.h a b x y (hs a b x y)⟩
end Go.Proofs.Ytjjhdigbgmbmnaa.Skw
