/- The contract of the closure of skew.At. -/
import Derived.Test.YtjjhdigbgmbmnaaSkwP
namespace Go.Proofs.Ytjjhdigbgmbmnaa.Skw
open Go.RowKit Aid Fx
theorem vN_bd {ax al ah bx bl bh x : Int} (ha : InR ax al ah) (hb : InR bx bl bh) (hx : 0 ≤ x ∧ x ≤ 1073741824) : (-2305843009213693952 ≤ vN1 ax al ah bx bl bh x ∧ vN1 ax al ah bx bl bh x ≤ 2305843009213693952) ∧ (-2305843009213693952 ≤ vN2 ax al ah bx bl bh x ∧ vN2 ax al ah bx bl bh x ≤ 2305843009213693952) := by
  obtain ⟨ha1, ha2, ha3, ha4, ha5, ha6⟩ := ha
  obtain ⟨hb1, hb2, hb3, hb4, hb5, hb6⟩ := hb
  have m1 := mul_bd (a := al) (b := bx - x) (by omega) (by omega) (by omega) (by omega)
  have m2 := mul_bd (a := ah) (b := bx - x) (by omega) (by omega) (by omega) (by omega)
  have m3 := mul_bd (a := bl) (b := x - ax) (by omega) (by omega) (by omega) (by omega)
  have m4 := mul_bd (a := bh) (b := x - ax) (by omega) (by omega) (by omega) (by omega)
  unfold vN1 vN2
  refine ⟨?_, ?_⟩ <;> split <;> (try split) <;> omega
set_option maxRecDepth 100000 in
set_option maxHeartbeats 3200000 in
theorem at1_any (ax al ah bx bl bh x : Int) (gx : Nat) (w : World) (cx : w.cell? ⟨gx, 0, none⟩ = some (.int .i64 x)) (lx : gx < w.heap.size) (ha : InR ax al ah) (hb : InR bx bl bh) (hx : 0 ≤ x ∧ x ≤ 1073741824) :
    Calls Try.prog 39 #[.agg #[.int .i64 ax, .int .i64 al, .int .i64 ah], .agg #[.int .i64 bx, .int .i64 bl, .int .i64 bh], .pointer (some ⟨gx, 0, none⟩)] w fun e w' => e = .returned (.tuple #[.agg #[.int .i64 (vN1 ax al ah bx bl bh x), .int .i64 (bx - ax)], .agg #[.int .i64 (vN2 ax al ah bx bl bh x), .int .i64 (bx - ax)]]) ∧ Below w.heap.size w w' := by
  have HB0 : Hid (Below w.heap.size w ((((w.alloc (.cells #[.int .i64 ax, .int .i64 al, .int .i64 ah] 43)).alloc (.cells #[.int .i64 bx, .int .i64 bl, .int .i64 bh] 43)).alloc (.cells #[.int .i64 0, .int .i64 0] 26)).alloc (.cells #[.int .i64 0, .int .i64 0] 26))) := hide (((((Below.refl _ _).alloc (Nat.le_refl _) _).alloc (by simp) _).alloc (by simp; omega) _).alloc (by simp; omega) _)
  have HR4 : Hid (RatAt ((((w.alloc (.cells #[.int .i64 ax, .int .i64 al, .int .i64 ah] 43)).alloc (.cells #[.int .i64 bx, .int .i64 bl, .int .i64 bh] 43)).alloc (.cells #[.int .i64 0, .int .i64 0] 26)).alloc (.cells #[.int .i64 0, .int .i64 0] 26)) (w.heap.size + 1 + 1) 0 0) := hide ((RatAt.fresh (by simp)).alloc _)
  have HR5 : Hid (RatAt ((((w.alloc (.cells #[.int .i64 ax, .int .i64 al, .int .i64 ah] 43)).alloc (.cells #[.int .i64 bx, .int .i64 bl, .int .i64 bh] 43)).alloc (.cells #[.int .i64 0, .int .i64 0] 26)).alloc (.cells #[.int .i64 0, .int .i64 0] 26)) (w.heap.size + 1 + 1 + 1) 0 0) := hide (RatAt.fresh (by simp))
  have HV := hide (fun W => values_any ax al ah bx bl bh x W ha hb hx)
  generalize vN1 ax al ah bx bl bh x = p at HV ⊢
  generalize vN2 ax al ah bx bl bh x = r at HV ⊢
  clear ha hb hx
  have HCS : Hid (((((w.alloc (.cells #[.int .i64 ax, .int .i64 al, .int .i64 ah] 43)).alloc (.cells #[.int .i64 bx, .int .i64 bl, .int .i64 bh] 43)).alloc (.cells #[.int .i64 0, .int .i64 0] 26)).alloc (.cells #[.int .i64 0, .int .i64 0] 26)).cell? ⟨w.heap.size, 0, none⟩ = some (.int .i64 ax) ∧ ((((w.alloc (.cells #[.int .i64 ax, .int .i64 al, .int .i64 ah] 43)).alloc (.cells #[.int .i64 bx, .int .i64 bl, .int .i64 bh] 43)).alloc (.cells #[.int .i64 0, .int .i64 0] 26)).alloc (.cells #[.int .i64 0, .int .i64 0] 26)).cell? ⟨w.heap.size, 1, none⟩ = some (.int .i64 al) ∧ ((((w.alloc (.cells #[.int .i64 ax, .int .i64 al, .int .i64 ah] 43)).alloc (.cells #[.int .i64 bx, .int .i64 bl, .int .i64 bh] 43)).alloc (.cells #[.int .i64 0, .int .i64 0] 26)).alloc (.cells #[.int .i64 0, .int .i64 0] 26)).cell? ⟨w.heap.size, 2, none⟩ = some (.int .i64 ah) ∧ ((((w.alloc (.cells #[.int .i64 ax, .int .i64 al, .int .i64 ah] 43)).alloc (.cells #[.int .i64 bx, .int .i64 bl, .int .i64 bh] 43)).alloc (.cells #[.int .i64 0, .int .i64 0] 26)).alloc (.cells #[.int .i64 0, .int .i64 0] 26)).cell? ⟨w.heap.size + 1, 0, none⟩ = some (.int .i64 bx) ∧ ((((w.alloc (.cells #[.int .i64 ax, .int .i64 al, .int .i64 ah] 43)).alloc (.cells #[.int .i64 bx, .int .i64 bl, .int .i64 bh] 43)).alloc (.cells #[.int .i64 0, .int .i64 0] 26)).alloc (.cells #[.int .i64 0, .int .i64 0] 26)).cell? ⟨w.heap.size + 1, 1, none⟩ = some (.int .i64 bl) ∧ ((((w.alloc (.cells #[.int .i64 ax, .int .i64 al, .int .i64 ah] 43)).alloc (.cells #[.int .i64 bx, .int .i64 bl, .int .i64 bh] 43)).alloc (.cells #[.int .i64 0, .int .i64 0] 26)).alloc (.cells #[.int .i64 0, .int .i64 0] 26)).cell? ⟨w.heap.size + 1, 2, none⟩ = some (.int .i64 bh) ∧ ((((w.alloc (.cells #[.int .i64 ax, .int .i64 al, .int .i64 ah] 43)).alloc (.cells #[.int .i64 bx, .int .i64 bl, .int .i64 bh] 43)).alloc (.cells #[.int .i64 0, .int .i64 0] 26)).alloc (.cells #[.int .i64 0, .int .i64 0] 26)).cell? ⟨gx, 0, none⟩ = some (.int .i64 x)) := hide ⟨by simp [go_sem], by simp [go_sem], by simp [go_sem], by simp [go_sem], by simp [go_sem], by simp [go_sem], (HB0.out.cell (p := ⟨gx, 0, none⟩) lx).trans cx⟩
  clear cx
  go_enter Try.func39, Try.ntmps39
  go_upto_region 1 with fail
  generalize hW4 : ((((w.alloc (.cells #[.int .i64 ax, .int .i64 al, .int .i64 ah] 43)).alloc (.cells #[.int .i64 bx, .int .i64 bl, .int .i64 bh] 43)).alloc (.cells #[.int .i64 0, .int .i64 0] 26)).alloc (.cells #[.int .i64 0, .int .i64 0] 26)) = W4 at HB0 HR4 HR5 HCS ⊢
  clear hW4
  obtain ⟨x0, x1, x2, x3, x4, x5, x6⟩ := HCS.out
  go_wp2_with fail
  refine (HV.out _).mono ?_
  rintro e wc ⟨rfl, hbc⟩
  have hbb := hide (rat_trans HB0.out hbc)
  obtain ⟨q40, q41, q4f⟩ := (HR4.out.step hbc).cells
  obtain ⟨q50, q51, q5f⟩ := (HR5.out.step hbc).cells
  clear hbc x0 x1 x2 x3 x4 x5 x6 HCS
  go_wp2
  all_goals
    refine bodyPost_ret (v := .tuple #[.agg #[.int .i64 p, .int .i64 (bx - ax)], .agg #[.int .i64 r, .int .i64 (bx - ax)]]) (by simp [results, Try.results39, go_sem, *]; try omega) rfl ?_
    refine ⟨rfl, ?_⟩
    repeat (first | with_reducible refine Below.drew ?_ | with_reducible refine Below.setCell ?_ (by first | (dsimp only; omega) | (simp; omega)) _ | exact hbb.out)
end Go.Proofs.Ytjjhdigbgmbmnaa.Skw
