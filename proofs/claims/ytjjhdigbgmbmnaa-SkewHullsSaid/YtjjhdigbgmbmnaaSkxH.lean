/- The contract of the reference's bound. -/
import Derived.Test.YtjjhdigbgmbmnaaSkxA
import Derived.Test.YtjjhdigbgmbmnaaSkwS
namespace Go.Proofs.Ytjjhdigbgmbmnaa.Skw
open Go.RowKit Aid Fx
def bdO (ax bx x : Int) : Prop := x = ax ∨ (ax < x ∧ x < bx) ∨ (bx < ax ∧ ax < x) ∨ (x < ax ∧ ax < bx)
instance (ax bx x : Int) : Decidable (bdO ax bx x) := by unfold bdO; exact inferInstance
def bdR (ax ah bx bl bh x : Int) : Rat := if x = ax then Rat.divInt ah 1 else if ax < x ∧ x < bx then Rat.divInt (ah * (bx - x) + bh * (x - ax)) (bx - ax) else if bx < ax ∧ ax < x then Rat.divInt (ah * (ax - bx) + (x - ax) * (ah - bl)) (ax - bx) else Rat.divInt (ah * (bx - ax) + (ax - x) * (ah - bl)) (bx - ax)
set_option maxRecDepth 100000 in
set_option maxHeartbeats 6400000 in
theorem bound_ok (ax al ah bx bl bh x : Int) (w : World) (ha : InR ax al ah) (hb : InR bx bl bh) (hx : 0 ≤ x ∧ x ≤ 1073741824) (h : bdO ax bx x) :
    Calls Try.prog 46 #[.agg #[.int .i64 ax, .int .i64 al, .int .i64 ah], .agg #[.int .i64 bx, .int .i64 bl, .int .i64 bh], .int .i64 x] w fun e w' => e = .returned (.tuple #[.agg #[.int .i64 (bdR ax ah bx bl bh x).num, .int .i64 (bdR ax ah bx bl bh x).den], .bool true]) ∧ Below w.heap.size w w' := by
  have HB0 : Hid (Below w.heap.size w (((w.alloc (.cells #[.int .i64 ax, .int .i64 al, .int .i64 ah] 43)).alloc (.cells #[.int .i64 bx, .int .i64 bl, .int .i64 bh] 43)).alloc (.cells #[.int .i64 0, .int .i64 0] 26))) := hide ((((Below.refl _ _).alloc (Nat.le_refl _) _).alloc (by simp) _).alloc (by simp; omega) _)
  have HR : Hid (RatAt (((w.alloc (.cells #[.int .i64 ax, .int .i64 al, .int .i64 ah] 43)).alloc (.cells #[.int .i64 bx, .int .i64 bl, .int .i64 bh] 43)).alloc (.cells #[.int .i64 0, .int .i64 0] 26)) (w.heap.size + 1 + 1) 0 0) := hide (RatAt.fresh (by simp))
  obtain ⟨ha1, ha2, ha3, ha4, ha5, ha6⟩ := ha
  obtain ⟨hb1, hb2, hb3, hb4, hb5, hb6⟩ := hb
  by_cases h1 : x = ax
  · have e : bdR ax ah bx bl bh x = Rat.divInt ah 1 := by unfold bdR; rw [if_pos h1]
    rw [e]
    clear e h
    have f1 : (x == ax) = true := by simp [h1]
    clear h1
    have HC := hide (fun W => rat_any (ah) (1) W (by omega) (by omega))
    clear ha1 ha2 ha3 ha4 ha5 ha6 hb1 hb2 hb3 hb4 hb5 hb6 hx
    generalize (Rat.divInt (ah) (1)).num = rn at HC ⊢
    generalize ((Rat.divInt (ah) (1)).den : Int) = rd at HC ⊢
    go_enter Try.func46, Try.ntmps46
    go_wp2_with fail
    with_reducible refine (HC.out _).mono ?_
    rintro e w1 ⟨rfl, hb⟩
    have HB := hide (rat_trans HB0.out hb)
    obtain ⟨z0, z1, zf⟩ := (HR.out.step hb).cells
    clear hb
    go_wp2
    all_goals
      refine bodyPost_ret (v := .tuple #[.agg #[.int .i64 rn, .int .i64 rd], .bool true]) (by simp [results, Try.results46, go_sem, *]; try omega) rfl ?_
      refine ⟨rfl, ?_⟩
      repeat (first | with_reducible refine Below.drew ?_ | with_reducible refine below_drewN ?_ _ | with_reducible refine Below.setCell ?_ (by first | (dsimp only; omega) | (simp; omega)) _ | with_reducible refine rat_up ?_ _ | exact HB.out)
  by_cases h2 : ax < x ∧ x < bx
  · have e : bdR ax ah bx bl bh x = Rat.divInt (ah * (bx - x) + bh * (x - ax)) (bx - ax) := by unfold bdR; rw [if_neg h1, if_pos h2]
    rw [e]
    clear e h
    have m1 := mul_bd (a := ah) (b := bx - x) (by omega) (by omega) (by omega) (by omega)
    have m2 := mul_bd (a := bh) (b := x - ax) (by omega) (by omega) (by omega) (by omega)
    have f1 : (x == ax) = false := by simp [h1]
    obtain ⟨f2, f3⟩ := h2
    have v1 : IntKind.i64.wrap (bx - x) = bx - x := IntWalk.i64_in _ (by omega)
    have v2 : IntKind.i64.wrap (ah * (bx - x)) = ah * (bx - x) := IntWalk.i64_in _ (by omega)
    have v3 : IntKind.i64.wrap (x - ax) = x - ax := IntWalk.i64_in _ (by omega)
    have v4 : IntKind.i64.wrap (bh * (x - ax)) = bh * (x - ax) := IntWalk.i64_in _ (by omega)
    have v5 : IntKind.i64.wrap (ah * (bx - x) + bh * (x - ax)) = ah * (bx - x) + bh * (x - ax) := IntWalk.i64_in _ (by omega)
    have v6 : IntKind.i64.wrap (bx - ax) = bx - ax := IntWalk.i64_in _ (by omega)
    have HC := hide (fun W => rat_any (ah * (bx - x) + bh * (x - ax)) (bx - ax) W (by omega) (by omega))
    clear ha1 ha2 ha3 ha4 ha5 ha6 hb1 hb2 hb3 hb4 hb5 hb6 hx
    generalize (Rat.divInt (ah * (bx - x) + bh * (x - ax)) (bx - ax)).num = rn at HC ⊢
    generalize ((Rat.divInt (ah * (bx - x) + bh * (x - ax)) (bx - ax)).den : Int) = rd at HC ⊢
    go_enter Try.func46, Try.ntmps46
    go_wp2_with fail
    with_reducible refine (HC.out _).mono ?_
    rintro e w1 ⟨rfl, hb⟩
    have HB := hide (rat_trans HB0.out hb)
    obtain ⟨z0, z1, zf⟩ := (HR.out.step hb).cells
    clear hb
    go_wp2
    all_goals
      refine bodyPost_ret (v := .tuple #[.agg #[.int .i64 rn, .int .i64 rd], .bool true]) (by simp [results, Try.results46, go_sem, *]; try omega) rfl ?_
      refine ⟨rfl, ?_⟩
      repeat (first | with_reducible refine Below.drew ?_ | with_reducible refine below_drewN ?_ _ | with_reducible refine Below.setCell ?_ (by first | (dsimp only; omega) | (simp; omega)) _ | with_reducible refine rat_up ?_ _ | exact HB.out)
  by_cases h3 : bx < ax ∧ ax < x
  · have e : bdR ax ah bx bl bh x = Rat.divInt (ah * (ax - bx) + (x - ax) * (ah - bl)) (ax - bx) := by unfold bdR; rw [if_neg h1, if_neg h2, if_pos h3]
    rw [e]
    clear e h
    have m1 := mul_bd (a := ah) (b := ax - bx) (by omega) (by omega) (by omega) (by omega)
    have m2 := mul_bd2 (a := x - ax) (b := ah - bl) (by omega) (by omega) (by omega) (by omega)
    have f1 : (x == ax) = false := by simp [h1]
    obtain ⟨f2, f3⟩ := h3
    have f4 : decide (x < bx) = false := by simp; omega
    clear h2
    have v1 : IntKind.i64.wrap (ax - bx) = ax - bx := IntWalk.i64_in _ (by omega)
    have v2 : IntKind.i64.wrap (ah * (ax - bx)) = ah * (ax - bx) := IntWalk.i64_in _ (by omega)
    have v3 : IntKind.i64.wrap (x - ax) = x - ax := IntWalk.i64_in _ (by omega)
    have v4 : IntKind.i64.wrap (ah - bl) = ah - bl := IntWalk.i64_in _ (by omega)
    have v5 : IntKind.i64.wrap ((x - ax) * (ah - bl)) = (x - ax) * (ah - bl) := IntWalk.i64_in _ (by omega)
    have v6 : IntKind.i64.wrap (ah * (ax - bx) + (x - ax) * (ah - bl)) = ah * (ax - bx) + (x - ax) * (ah - bl) := IntWalk.i64_in _ (by omega)
    have HC := hide (fun W => rat_any (ah * (ax - bx) + (x - ax) * (ah - bl)) (ax - bx) W (by omega) (by omega))
    clear ha1 ha2 ha3 ha4 ha5 ha6 hb1 hb2 hb3 hb4 hb5 hb6 hx
    generalize (Rat.divInt (ah * (ax - bx) + (x - ax) * (ah - bl)) (ax - bx)).num = rn at HC ⊢
    generalize ((Rat.divInt (ah * (ax - bx) + (x - ax) * (ah - bl)) (ax - bx)).den : Int) = rd at HC ⊢
    go_enter Try.func46, Try.ntmps46
    go_wp2_with fail
    with_reducible refine (HC.out _).mono ?_
    rintro e w1 ⟨rfl, hb⟩
    have HB := hide (rat_trans HB0.out hb)
    obtain ⟨z0, z1, zf⟩ := (HR.out.step hb).cells
    clear hb
    go_wp2
    all_goals
      refine bodyPost_ret (v := .tuple #[.agg #[.int .i64 rn, .int .i64 rd], .bool true]) (by simp [results, Try.results46, go_sem, *]; try omega) rfl ?_
      refine ⟨rfl, ?_⟩
      repeat (first | with_reducible refine Below.drew ?_ | with_reducible refine below_drewN ?_ _ | with_reducible refine Below.setCell ?_ (by first | (dsimp only; omega) | (simp; omega)) _ | with_reducible refine rat_up ?_ _ | exact HB.out)
  · have e : bdR ax ah bx bl bh x = Rat.divInt (ah * (bx - ax) + (ax - x) * (ah - bl)) (bx - ax) := by unfold bdR; rw [if_neg h1, if_neg h2, if_neg h3]
    have h4 : x < ax ∧ ax < bx := by
      rcases h with h | h | h | h
      · exact absurd h h1
      · exact absurd h h2
      · exact absurd h h3
      · exact h
    rw [e]
    clear e h
    have m1 := mul_bd (a := ah) (b := bx - ax) (by omega) (by omega) (by omega) (by omega)
    have m2 := mul_bd2 (a := ax - x) (b := ah - bl) (by omega) (by omega) (by omega) (by omega)
    have f1 : (x == ax) = false := by simp [h1]
    obtain ⟨f2, f3⟩ := h4
    have f4 : decide (ax < x) = false := by simp; omega
    have f5 : decide (bx < ax) = false := by simp; omega
    clear h2 h3
    have v1 : IntKind.i64.wrap (bx - ax) = bx - ax := IntWalk.i64_in _ (by omega)
    have v2 : IntKind.i64.wrap (ah * (bx - ax)) = ah * (bx - ax) := IntWalk.i64_in _ (by omega)
    have v3 : IntKind.i64.wrap (ax - x) = ax - x := IntWalk.i64_in _ (by omega)
    have v4 : IntKind.i64.wrap (ah - bl) = ah - bl := IntWalk.i64_in _ (by omega)
    have v5 : IntKind.i64.wrap ((ax - x) * (ah - bl)) = (ax - x) * (ah - bl) := IntWalk.i64_in _ (by omega)
    have v6 : IntKind.i64.wrap (ah * (bx - ax) + (ax - x) * (ah - bl)) = ah * (bx - ax) + (ax - x) * (ah - bl) := IntWalk.i64_in _ (by omega)
    have HC := hide (fun W => rat_any (ah * (bx - ax) + (ax - x) * (ah - bl)) (bx - ax) W (by omega) (by omega))
    clear ha1 ha2 ha3 ha4 ha5 ha6 hb1 hb2 hb3 hb4 hb5 hb6 hx
    generalize (Rat.divInt (ah * (bx - ax) + (ax - x) * (ah - bl)) (bx - ax)).num = rn at HC ⊢
    generalize ((Rat.divInt (ah * (bx - ax) + (ax - x) * (ah - bl)) (bx - ax)).den : Int) = rd at HC ⊢
    go_enter Try.func46, Try.ntmps46
    go_wp2_with fail
    with_reducible refine (HC.out _).mono ?_
    rintro e w1 ⟨rfl, hb⟩
    have HB := hide (rat_trans HB0.out hb)
    obtain ⟨z0, z1, zf⟩ := (HR.out.step hb).cells
    clear hb
    go_wp2
    all_goals
      refine bodyPost_ret (v := .tuple #[.agg #[.int .i64 rn, .int .i64 rd], .bool true]) (by simp [results, Try.results46, go_sem, *]; try omega) rfl ?_
      refine ⟨rfl, ?_⟩
      repeat (first | with_reducible refine Below.drew ?_ | with_reducible refine below_drewN ?_ _ | with_reducible refine Below.setCell ?_ (by first | (dsimp only; omega) | (simp; omega)) _ | with_reducible refine rat_up ?_ _ | exact HB.out)
set_option maxRecDepth 100000 in
set_option maxHeartbeats 6400000 in
theorem bound_no (ax al ah bx bl bh x : Int) (w : World) (ha : InR ax al ah) (hb : InR bx bl bh) (hx : 0 ≤ x ∧ x ≤ 1073741824) (h : ¬ bdO ax bx x) :
    Calls Try.prog 46 #[.agg #[.int .i64 ax, .int .i64 al, .int .i64 ah], .agg #[.int .i64 bx, .int .i64 bl, .int .i64 bh], .int .i64 x] w fun e w' => e = .returned (.tuple #[.agg #[.int .i64 0, .int .i64 0], .bool false]) ∧ Below w.heap.size w w' := by
  have HB0 : Hid (Below w.heap.size w (((w.alloc (.cells #[.int .i64 ax, .int .i64 al, .int .i64 ah] 43)).alloc (.cells #[.int .i64 bx, .int .i64 bl, .int .i64 bh] 43)).alloc (.cells #[.int .i64 0, .int .i64 0] 26))) := hide ((((Below.refl _ _).alloc (Nat.le_refl _) _).alloc (by simp) _).alloc (by simp; omega) _)
  have HR : Hid (RatAt (((w.alloc (.cells #[.int .i64 ax, .int .i64 al, .int .i64 ah] 43)).alloc (.cells #[.int .i64 bx, .int .i64 bl, .int .i64 bh] 43)).alloc (.cells #[.int .i64 0, .int .i64 0] 26)) (w.heap.size + 1 + 1) 0 0) := hide (RatAt.fresh (by simp))
  obtain ⟨ha1, ha2, ha3, ha4, ha5, ha6⟩ := ha
  obtain ⟨hb1, hb2, hb3, hb4, hb5, hb6⟩ := hb
  unfold bdO at h
  rw [not_or, not_or, not_or] at h
  obtain ⟨h1, h2, h3, h4⟩ := h
  have f1 : (x == ax) = false := by simp [h1]
  by_cases g1 : ax < x
  · have f2 : decide (x < bx) = false := by simp; omega
    have f3 : decide (bx < ax) = false := by simp; omega
    have f4 : decide (x < ax) = false := by simp; omega
    clear ha1 ha2 ha3 ha4 ha5 ha6 hb1 hb2 hb3 hb4 hb5 hb6 hx h1 h2 h3 h4
    go_enter Try.func46, Try.ntmps46
    go_wp2
    all_goals
      refine bodyPost_ret (v := .tuple #[.agg #[.int .i64 0, .int .i64 0], .bool false]) (by simp [results, Try.results46, go_sem, *]; try omega) rfl ?_
      refine ⟨rfl, ?_⟩
      repeat (first | exact HB0.out | with_reducible refine Below.drew ?_ | with_reducible refine below_drewN ?_ _ | with_reducible refine Below.setCell ?_ (by first | (dsimp only; omega) | (simp; omega)) _)
  · have f2 : decide (ax < x) = false := by simp; omega
    have f3 : x < ax := by omega
    have f4 : decide (ax < bx) = false := by simp; omega
    by_cases g2 : bx < ax
    · clear g1
      clear ha1 ha2 ha3 ha4 ha5 ha6 hb1 hb2 hb3 hb4 hb5 hb6 hx h1 h2 h3 h4
      go_enter Try.func46, Try.ntmps46
      go_wp2
      all_goals
        refine bodyPost_ret (v := .tuple #[.agg #[.int .i64 0, .int .i64 0], .bool false]) (by simp [results, Try.results46, go_sem, *]; try omega) rfl ?_
        refine ⟨rfl, ?_⟩
        repeat (first | exact HB0.out | with_reducible refine Below.drew ?_ | with_reducible refine below_drewN ?_ _ | with_reducible refine Below.setCell ?_ (by first | (dsimp only; omega) | (simp; omega)) _)
    · have f5 : decide (bx < ax) = false := by simp; omega
      clear g1 g2
      clear ha1 ha2 ha3 ha4 ha5 ha6 hb1 hb2 hb3 hb4 hb5 hb6 hx h1 h2 h3 h4
      go_enter Try.func46, Try.ntmps46
      go_wp2
      all_goals
        refine bodyPost_ret (v := .tuple #[.agg #[.int .i64 0, .int .i64 0], .bool false]) (by simp [results, Try.results46, go_sem, *]; try omega) rfl ?_
        refine ⟨rfl, ?_⟩
        repeat (first | exact HB0.out | with_reducible refine Below.drew ?_ | with_reducible refine below_drewN ?_ _ | with_reducible refine Below.setCell ?_ (by first | (dsimp only; omega) | (simp; omega)) _)
end Go.Proofs.Ytjjhdigbgmbmnaa.Skw
