
/- The contracts of layer 54: Extend where it succeeds. -/
import Derived.Test.YtnmpoeljjajdiaaDoorVotP
namespace Go.Proofs.YtnmpoeljjajdiaaDoor.Vot
open Go.RowKit Aid Civ Leap App
theorem make_below {a w w' : World} (h : Below a.heap.size a w) (g : w.grownBy w' none) : Below a.heap.size a w' := h.grown g h.size (by intro k q; cases q)
theorem app_below {a w w' : World} {e : TypeId} {size : Nat} {v : Value} {n : Nat} {xs : List Value} (h : Below a.heap.size a w) (g : w.grownBy w' v.ownBlock) (o : w.ownsRow a.heap.size e size v n xs) : Below a.heap.size a w' := h.grown g h.size (fun k q => (o.lt k q).1)
theorem ents_own' {w : World} {base : Nat} {e : TypeId} {p : Option Addr} {c n : Nat} {A O : Nat → Int} (h : w.ownsRow base e 2 (.slice p n c) n (flat A O n)) (hn : n ≤ 9223372036854775807) : Ents w p n A O := by
  obtain ⟨p', c', e, h'⟩ := ents_own h hn
  cases e
  exact h'
/-- what Extend gives where it succeeds -/
def ExtIs (B X : Int) (A O : Nat → Int) (n : Nat) (ea ef : Int) (e : Ending) (w' : World) : Prop :=
  ∃ p c, e = .returned (.tuple #[.agg #[.int .i64 B, .int .i64 (max X (ea + 1)), .slice p (n + 1) c], .int .i64 0]) ∧ Ents w' p (n + 1) (upd A n ea) (upd O n (oldO B O n + ef))
theorem info_entry : (Tryd.prog.info? 44).map (fun i => (i.zero, i.size, i.bytes)) = some (some (.agg #[.int .i64 0, .int .i64 0]), 2, 16) := by kernel_rfl
set_option maxRecDepth 100000 in
set_option maxHeartbeats 3200000 in
theorem PExt_okzp (B X : Int) (a : Option Addr) (n cap : Nat) (A O : Nat → Int) (ea : Int) (w : World) (l : Laid w) (hr : Ents w a n A O) (E : ExtOk B X A O n ea (1)) (h0 : n = 0) :
    Calls Tryd.prog 16 #[.agg #[.int .i64 B, .int .i64 X, .slice a n cap], .agg #[.int .i64 ea, .int .i64 (1)]] w fun e w' => ExtIs B X A O n ea (1) e w' ∧ Below w.heap.size w w' := by
  obtain ⟨W0, hW0⟩ : ∃ W0, W0 = (((w.alloc (.cells #[.int .i64 B, .int .i64 X, .slice a n cap] 24)).alloc (.cells #[.int .i64 ea, .int .i64 (1)] 44)).alloc (.cells #[.int .i64 0, .int .i64 0, .slice none 0 0] 24)) := ⟨_, rfl⟩
  have HH := hide hW0
  have hz : W0.heap.size = w.heap.size + 3 := by rw [hW0]; simp
  have hb0 := Below.refl W0.heap.size W0
  have HB : Hid (Below w.heap.size w W0) := hide (by rw [hW0]; exact ((((Below.refl _ _).alloc (Nat.le_refl _) _).alloc (by simp) _).alloc (by simp; omega) _))
  have k00 : W0.cell? ⟨w.heap.size, 0, none⟩ = some (.int .i64 B) := by rw [hW0]; simp [go_sem]
  have k01 : W0.cell? ⟨w.heap.size, 1, none⟩ = some (.int .i64 X) := by rw [hW0]; simp [go_sem]
  have k02 : W0.cell? ⟨w.heap.size, 2, none⟩ = some (.slice a n cap) := by rw [hW0]; simp [go_sem]
  have k10 : W0.cell? ⟨w.heap.size + 1, 0, none⟩ = some (.int .i64 ea) := by rw [hW0]; simp [go_sem]
  have k11 : W0.cell? ⟨w.heap.size + 1, 1, none⟩ = some (.int .i64 (1)) := by rw [hW0]; simp [go_sem]
  have k20 : W0.cell? ⟨w.heap.size + 1 + 1, 0, none⟩ = some (.int .i64 0) := by rw [hW0]; simp [go_sem]
  have k21 : W0.cell? ⟨w.heap.size + 1 + 1, 1, none⟩ = some (.int .i64 0) := by rw [hW0]; simp [go_sem]
  have k22 : W0.cell? ⟨w.heap.size + 1 + 1, 2, none⟩ = some (.slice none 0 0) := by rw [hW0]; simp [go_sem]
  have kfr : ∀ i, W0.frozen? ⟨w.heap.size + 1 + 1, i, none⟩ = false := fun i => by rw [hW0]; simp [go_sem]
  have HR := hide (fun V (g : Below W0.heap.size W0 V) => hr.below (HB.out.trans (g.mono HB.out.size)))
  have LL := hide (fun V (g : Below W0.heap.size W0 V) => l.step (HB.out.trans (g.mono HB.out.size)))
  have HK := hide (fun (V : World) (g : Below W0.heap.size W0 V) => And.intro ((g.cell (p := ⟨w.heap.size, 0, none⟩) (by dsimp only; omega)).trans k00) (And.intro ((g.cell (p := ⟨w.heap.size, 1, none⟩) (by dsimp only; omega)).trans k01) (And.intro ((g.cell (p := ⟨w.heap.size, 2, none⟩) (by dsimp only; omega)).trans k02) (And.intro ((g.cell (p := ⟨w.heap.size + 1, 0, none⟩) (by dsimp only; omega)).trans k10) (And.intro ((g.cell (p := ⟨w.heap.size + 1, 1, none⟩) (by dsimp only; omega)).trans k11) (And.intro ((g.cell (p := ⟨w.heap.size + 1 + 1, 0, none⟩) (by dsimp only; omega)).trans k20) (And.intro ((g.cell (p := ⟨w.heap.size + 1 + 1, 1, none⟩) (by dsimp only; omega)).trans k21) (And.intro ((g.cell (p := ⟨w.heap.size + 1 + 1, 2, none⟩) (by dsimp only; omega)).trans k22) (And.intro (show ∀ i, V.frozen? ⟨w.heap.size + 1 + 1, i, none⟩ = false from fun i => (g.frozen (p := ⟨w.heap.size + 1 + 1, i, none⟩) (by dsimp only; omega)).trans (kfr i)) g)))))))))
  have HS := hide hz
  have CK := hide (based (Nat.le_refl _) fun V (g : Below W0.heap.size W0 V) => Check_any B X a n cap A O V (LL.out V g) (HR.out V g))
  have CM := hide (based (Nat.le_refl _) fun V (g : Below W0.heap.size W0 V) => startsMonth_any ea V (LL.out V g))
  clear hW0 hz k00 k01 k02 k10 k11 k20 k21 k22 kfr l LL
  obtain ⟨x1, x2⟩ := (chkT_ok E.c).x
  obtain ⟨e1, e2⟩ := beg_bd E.b
  have hn := E.n
  rw [E.c] at CK
  rw [E.b] at CM
  have HEX := hide E
  have hq : -1000 ≤ B + (1) ∧ B + (1) ≤ 1000 := by have := E.o; unfold oldO at this; rw [if_pos h0] at this; exact this
  obtain ⟨q5, q6⟩ := hq
  subst h0
  obtain ⟨B1, B2⟩ := (chkT_ok E.c).b
  obtain ⟨o, ho⟩ : ∃ o, o = oldO B O 0 + (1) := ⟨_, rfl⟩
  have ho2 : o = B + (1) := ho
  have HO := hide ho2
  have HOO := hide ho
  obtain ⟨i0, hi0, hz0, hz1, hz2⟩ := info_parts info_entry
  have HI0 := hide hi0
  have HZ0 := hide hz0
  have HZ1 := hide hz1
  have HZ2 := hide hz2
  clear hi0 hz0 hz1 hz2 ho ho2 E hr
  go_enter Tryd.func16, Tryd.ntmps16
  go_wp2_with fail
  rw [← HH.out]
  with_reducible refine (CK.out _ hb0).mono ?_
  rintro e w1 ⟨rfl, b1⟩
  obtain ⟨k00, k01, k02, k10, k11, k20, k21, k22, kfr, _⟩ := HK.out _ b1
  go_wp2_with fail
  with_reducible refine (CM.out _ b1).mono ?_
  rintro e w2 ⟨rfl, b2⟩
  clear k00 k01 k02 k10 k11 k20 k21 k22 kfr
  obtain ⟨k00, k01, k02, k10, k11, k20, k21, k22, kfr, _⟩ := HK.out _ b2
  have b2q := b2
  go_upto_region 16 with fail
  obtain ⟨V, hV⟩ : ∃ V, V = w2 := ⟨_, rfl⟩
  rw [← hV] at b2q
  clear b1 b2 hb0
  clear k00 k01 k02 k10 k11 k20 k21 k22 kfr
  obtain ⟨k00, k01, k02, k10, k11, k20, k21, k22, kfr, _⟩ := HK.out _ b2q
  change Code.wp _ _ _ _ w2
  rw [← hV]
  clear hV
  have hsV := b2q.size
  go_upto_region 17 with (at_make; refine wpList_make_own _ rfl _ _ 22 rfl W0.heap.size 44 i0 _ 2 Tryd.underlying22 HI0.out HZ0.out HZ1.out .i64 .i64 _ (0 + 1) rfl rfl (by first | rfl | simp | omega) (by rw [HZ2.out]; omega) (by unfold maxLen; omega) hsV ?_; intro w3 own3 g3; have b3 := make_below b2q g3; have OW3 := hide own3; clear own3 g3 k00 k01 k02 k10 k11 k20 k21 k22 kfr; obtain ⟨k00, k01, k02, k10, k11, k20, k21, k22, kfr, _⟩ := HK.out _ b3)
  have hs3 := b3.size
  go_upto_region 18 with (at_builtin; refine wpList_app _ rfl _ _ 22 rfl W0.heap.size 44 i0 _ 2 16 Tryd.underlying22 HI0.out HZ0.out HZ1.out HZ2.out rfl (by decide) _ 0 [] rfl OW3.out a 0 _ (flat A O 0) rfl (flat_src (HR.out _ b3)) (flat_one A O _) (by unfold maxLen; omega) (by omega) hs3 ?_; intro v4 w4 own4 g4 d4; have b4 := app_below b3 g4 OW3.out; have OW4 := hide own4; clear own4 g4 d4 k00 k01 k02 k10 k11 k20 k21 k22 kfr; obtain ⟨k00, k01, k02, k10, k11, k20, k21, k22, kfr, _⟩ := HK.out _ b4)
  have hs4 := b4.size
  go_upto_region 19 with (at_builtin; refine wpList_app _ rfl _ _ 22 rfl W0.heap.size 44 i0 _ 2 16 Tryd.underlying22 HI0.out HZ0.out HZ1.out HZ2.out rfl (by decide) _ _ _ rfl (OW4.out.alloc _) _ 1 _ [.int .i64 ea, .int .i64 o] rfl (src_block (by rw [HO.out]; exact heap_alloc_new w4 _) rfl) (by intro x hx; simp at hx; rcases hx with rfl | rfl <;> rfl) (by unfold maxLen; omega) (by omega) (by simp; omega) ?_; intro v5 w5 own5 g5 d5; have b5 := app_below (b4.alloc hs4 _) g5 (OW4.out.alloc _); have OW5 := hide own5; clear own5 g5 d5 k00 k01 k02 k10 k11 k20 k21 k22 kfr; obtain ⟨k00, k01, k02, k10, k11, k20, k21, k22, kfr, _⟩ := HK.out _ b5)
  have own : w5.ownsRow W0.heap.size 44 2 v5 (0 + 1) (flat (upd A 0 ea) (upd O 0 o) (0 + 1)) := by
    have q := OW5.out
    rw [Nat.zero_add, List.nil_append, flat_upd] at q
    exact q
  obtain ⟨p, c, hv, _⟩ := ents_own own (by omega)
  subst hv
  have hs5 := b5.size
  have HW := hide own
  have HF := hide (HB.out.trans (b5.mono HB.out.size))
  have hz := HS.out
  clear own OW5 OW4 OW3 b2q b3 b4 b5
  go_wp2
  all_goals
    refine bodyPost_ret (v := .tuple #[.agg #[.int .i64 B, .int .i64 (max X (ea + 1)), .slice p (0 + 1) c], .int .i64 0]) (by simp [results, Tryd.results16, go_sem, *]; try omega) rfl ?_
    refine ⟨⟨p, c, rfl, ?_⟩, ?_⟩
    · rw [← HOO.out]
      refine ents_own' (base := W0.heap.size) (e := 44) (c := c) ?_ (by omega)
      repeat (with_reducible refine ownsRow_setCell_below ?_ (by dsimp only; omega) _)
      exact HW.out
    · repeat (with_reducible refine Below.setCell ?_ (by first | (dsimp only; omega) | (simp; omega)) _)
      exact HF.out
set_option maxRecDepth 100000 in
set_option maxHeartbeats 3200000 in
theorem PExt_okzm (B X : Int) (a : Option Addr) (n cap : Nat) (A O : Nat → Int) (ea : Int) (w : World) (l : Laid w) (hr : Ents w a n A O) (E : ExtOk B X A O n ea (-1)) (h0 : n = 0) :
    Calls Tryd.prog 16 #[.agg #[.int .i64 B, .int .i64 X, .slice a n cap], .agg #[.int .i64 ea, .int .i64 (-1)]] w fun e w' => ExtIs B X A O n ea (-1) e w' ∧ Below w.heap.size w w' := by
  obtain ⟨W0, hW0⟩ : ∃ W0, W0 = (((w.alloc (.cells #[.int .i64 B, .int .i64 X, .slice a n cap] 24)).alloc (.cells #[.int .i64 ea, .int .i64 (-1)] 44)).alloc (.cells #[.int .i64 0, .int .i64 0, .slice none 0 0] 24)) := ⟨_, rfl⟩
  have HH := hide hW0
  have hz : W0.heap.size = w.heap.size + 3 := by rw [hW0]; simp
  have hb0 := Below.refl W0.heap.size W0
  have HB : Hid (Below w.heap.size w W0) := hide (by rw [hW0]; exact ((((Below.refl _ _).alloc (Nat.le_refl _) _).alloc (by simp) _).alloc (by simp; omega) _))
  have k00 : W0.cell? ⟨w.heap.size, 0, none⟩ = some (.int .i64 B) := by rw [hW0]; simp [go_sem]
  have k01 : W0.cell? ⟨w.heap.size, 1, none⟩ = some (.int .i64 X) := by rw [hW0]; simp [go_sem]
  have k02 : W0.cell? ⟨w.heap.size, 2, none⟩ = some (.slice a n cap) := by rw [hW0]; simp [go_sem]
  have k10 : W0.cell? ⟨w.heap.size + 1, 0, none⟩ = some (.int .i64 ea) := by rw [hW0]; simp [go_sem]
  have k11 : W0.cell? ⟨w.heap.size + 1, 1, none⟩ = some (.int .i64 (-1)) := by rw [hW0]; simp [go_sem]
  have k20 : W0.cell? ⟨w.heap.size + 1 + 1, 0, none⟩ = some (.int .i64 0) := by rw [hW0]; simp [go_sem]
  have k21 : W0.cell? ⟨w.heap.size + 1 + 1, 1, none⟩ = some (.int .i64 0) := by rw [hW0]; simp [go_sem]
  have k22 : W0.cell? ⟨w.heap.size + 1 + 1, 2, none⟩ = some (.slice none 0 0) := by rw [hW0]; simp [go_sem]
  have kfr : ∀ i, W0.frozen? ⟨w.heap.size + 1 + 1, i, none⟩ = false := fun i => by rw [hW0]; simp [go_sem]
  have HR := hide (fun V (g : Below W0.heap.size W0 V) => hr.below (HB.out.trans (g.mono HB.out.size)))
  have LL := hide (fun V (g : Below W0.heap.size W0 V) => l.step (HB.out.trans (g.mono HB.out.size)))
  have HK := hide (fun (V : World) (g : Below W0.heap.size W0 V) => And.intro ((g.cell (p := ⟨w.heap.size, 0, none⟩) (by dsimp only; omega)).trans k00) (And.intro ((g.cell (p := ⟨w.heap.size, 1, none⟩) (by dsimp only; omega)).trans k01) (And.intro ((g.cell (p := ⟨w.heap.size, 2, none⟩) (by dsimp only; omega)).trans k02) (And.intro ((g.cell (p := ⟨w.heap.size + 1, 0, none⟩) (by dsimp only; omega)).trans k10) (And.intro ((g.cell (p := ⟨w.heap.size + 1, 1, none⟩) (by dsimp only; omega)).trans k11) (And.intro ((g.cell (p := ⟨w.heap.size + 1 + 1, 0, none⟩) (by dsimp only; omega)).trans k20) (And.intro ((g.cell (p := ⟨w.heap.size + 1 + 1, 1, none⟩) (by dsimp only; omega)).trans k21) (And.intro ((g.cell (p := ⟨w.heap.size + 1 + 1, 2, none⟩) (by dsimp only; omega)).trans k22) (And.intro (show ∀ i, V.frozen? ⟨w.heap.size + 1 + 1, i, none⟩ = false from fun i => (g.frozen (p := ⟨w.heap.size + 1 + 1, i, none⟩) (by dsimp only; omega)).trans (kfr i)) g)))))))))
  have HS := hide hz
  have CK := hide (based (Nat.le_refl _) fun V (g : Below W0.heap.size W0 V) => Check_any B X a n cap A O V (LL.out V g) (HR.out V g))
  have CM := hide (based (Nat.le_refl _) fun V (g : Below W0.heap.size W0 V) => startsMonth_any ea V (LL.out V g))
  clear hW0 hz k00 k01 k02 k10 k11 k20 k21 k22 kfr l LL
  obtain ⟨x1, x2⟩ := (chkT_ok E.c).x
  obtain ⟨e1, e2⟩ := beg_bd E.b
  have hn := E.n
  rw [E.c] at CK
  rw [E.b] at CM
  have HEX := hide E
  have hq : -1000 ≤ B + (-1) ∧ B + (-1) ≤ 1000 := by have := E.o; unfold oldO at this; rw [if_pos h0] at this; exact this
  obtain ⟨q5, q6⟩ := hq
  subst h0
  obtain ⟨B1, B2⟩ := (chkT_ok E.c).b
  obtain ⟨o, ho⟩ : ∃ o, o = oldO B O 0 + (-1) := ⟨_, rfl⟩
  have ho2 : o = B + (-1) := ho
  have HO := hide ho2
  have HOO := hide ho
  obtain ⟨i0, hi0, hz0, hz1, hz2⟩ := info_parts info_entry
  have HI0 := hide hi0
  have HZ0 := hide hz0
  have HZ1 := hide hz1
  have HZ2 := hide hz2
  clear hi0 hz0 hz1 hz2 ho ho2 E hr
  go_enter Tryd.func16, Tryd.ntmps16
  go_wp2_with fail
  rw [← HH.out]
  with_reducible refine (CK.out _ hb0).mono ?_
  rintro e w1 ⟨rfl, b1⟩
  obtain ⟨k00, k01, k02, k10, k11, k20, k21, k22, kfr, _⟩ := HK.out _ b1
  go_wp2_with fail
  with_reducible refine (CM.out _ b1).mono ?_
  rintro e w2 ⟨rfl, b2⟩
  clear k00 k01 k02 k10 k11 k20 k21 k22 kfr
  obtain ⟨k00, k01, k02, k10, k11, k20, k21, k22, kfr, _⟩ := HK.out _ b2
  have b2q := b2
  go_upto_region 16 with fail
  obtain ⟨V, hV⟩ : ∃ V, V = w2 := ⟨_, rfl⟩
  rw [← hV] at b2q
  clear b1 b2 hb0
  clear k00 k01 k02 k10 k11 k20 k21 k22 kfr
  obtain ⟨k00, k01, k02, k10, k11, k20, k21, k22, kfr, _⟩ := HK.out _ b2q
  change Code.wp _ _ _ _ w2
  rw [← hV]
  clear hV
  have hsV := b2q.size
  go_upto_region 17 with (at_make; refine wpList_make_own _ rfl _ _ 22 rfl W0.heap.size 44 i0 _ 2 Tryd.underlying22 HI0.out HZ0.out HZ1.out .i64 .i64 _ (0 + 1) rfl rfl (by first | rfl | simp | omega) (by rw [HZ2.out]; omega) (by unfold maxLen; omega) hsV ?_; intro w3 own3 g3; have b3 := make_below b2q g3; have OW3 := hide own3; clear own3 g3 k00 k01 k02 k10 k11 k20 k21 k22 kfr; obtain ⟨k00, k01, k02, k10, k11, k20, k21, k22, kfr, _⟩ := HK.out _ b3)
  have hs3 := b3.size
  go_upto_region 18 with (at_builtin; refine wpList_app _ rfl _ _ 22 rfl W0.heap.size 44 i0 _ 2 16 Tryd.underlying22 HI0.out HZ0.out HZ1.out HZ2.out rfl (by decide) _ 0 [] rfl OW3.out a 0 _ (flat A O 0) rfl (flat_src (HR.out _ b3)) (flat_one A O _) (by unfold maxLen; omega) (by omega) hs3 ?_; intro v4 w4 own4 g4 d4; have b4 := app_below b3 g4 OW3.out; have OW4 := hide own4; clear own4 g4 d4 k00 k01 k02 k10 k11 k20 k21 k22 kfr; obtain ⟨k00, k01, k02, k10, k11, k20, k21, k22, kfr, _⟩ := HK.out _ b4)
  have hs4 := b4.size
  go_upto_region 19 with (at_builtin; refine wpList_app _ rfl _ _ 22 rfl W0.heap.size 44 i0 _ 2 16 Tryd.underlying22 HI0.out HZ0.out HZ1.out HZ2.out rfl (by decide) _ _ _ rfl (OW4.out.alloc _) _ 1 _ [.int .i64 ea, .int .i64 o] rfl (src_block (by rw [HO.out]; exact heap_alloc_new w4 _) rfl) (by intro x hx; simp at hx; rcases hx with rfl | rfl <;> rfl) (by unfold maxLen; omega) (by omega) (by simp; omega) ?_; intro v5 w5 own5 g5 d5; have b5 := app_below (b4.alloc hs4 _) g5 (OW4.out.alloc _); have OW5 := hide own5; clear own5 g5 d5 k00 k01 k02 k10 k11 k20 k21 k22 kfr; obtain ⟨k00, k01, k02, k10, k11, k20, k21, k22, kfr, _⟩ := HK.out _ b5)
  have own : w5.ownsRow W0.heap.size 44 2 v5 (0 + 1) (flat (upd A 0 ea) (upd O 0 o) (0 + 1)) := by
    have q := OW5.out
    rw [Nat.zero_add, List.nil_append, flat_upd] at q
    exact q
  obtain ⟨p, c, hv, _⟩ := ents_own own (by omega)
  subst hv
  have hs5 := b5.size
  have HW := hide own
  have HF := hide (HB.out.trans (b5.mono HB.out.size))
  have hz := HS.out
  clear own OW5 OW4 OW3 b2q b3 b4 b5
  go_wp2
  all_goals
    refine bodyPost_ret (v := .tuple #[.agg #[.int .i64 B, .int .i64 (max X (ea + 1)), .slice p (0 + 1) c], .int .i64 0]) (by simp [results, Tryd.results16, go_sem, *]; try omega) rfl ?_
    refine ⟨⟨p, c, rfl, ?_⟩, ?_⟩
    · rw [← HOO.out]
      refine ents_own' (base := W0.heap.size) (e := 44) (c := c) ?_ (by omega)
      repeat (with_reducible refine ownsRow_setCell_below ?_ (by dsimp only; omega) _)
      exact HW.out
    · repeat (with_reducible refine Below.setCell ?_ (by first | (dsimp only; omega) | (simp; omega)) _)
      exact HF.out
set_option maxRecDepth 100000 in
set_option maxHeartbeats 3200000 in
theorem PExt_oknp (B X : Int) (a : Option Addr) (n cap : Nat) (A O : Nat → Int) (ea : Int) (w : World) (l : Laid w) (hr : Ents w a n A O) (E : ExtOk B X A O n ea (1)) (h0 : 0 < n) :
    Calls Tryd.prog 16 #[.agg #[.int .i64 B, .int .i64 X, .slice a n cap], .agg #[.int .i64 ea, .int .i64 (1)]] w fun e w' => ExtIs B X A O n ea (1) e w' ∧ Below w.heap.size w w' := by
  obtain ⟨W0, hW0⟩ : ∃ W0, W0 = (((w.alloc (.cells #[.int .i64 B, .int .i64 X, .slice a n cap] 24)).alloc (.cells #[.int .i64 ea, .int .i64 (1)] 44)).alloc (.cells #[.int .i64 0, .int .i64 0, .slice none 0 0] 24)) := ⟨_, rfl⟩
  have HH := hide hW0
  have hz : W0.heap.size = w.heap.size + 3 := by rw [hW0]; simp
  have hb0 := Below.refl W0.heap.size W0
  have HB : Hid (Below w.heap.size w W0) := hide (by rw [hW0]; exact ((((Below.refl _ _).alloc (Nat.le_refl _) _).alloc (by simp) _).alloc (by simp; omega) _))
  have k00 : W0.cell? ⟨w.heap.size, 0, none⟩ = some (.int .i64 B) := by rw [hW0]; simp [go_sem]
  have k01 : W0.cell? ⟨w.heap.size, 1, none⟩ = some (.int .i64 X) := by rw [hW0]; simp [go_sem]
  have k02 : W0.cell? ⟨w.heap.size, 2, none⟩ = some (.slice a n cap) := by rw [hW0]; simp [go_sem]
  have k10 : W0.cell? ⟨w.heap.size + 1, 0, none⟩ = some (.int .i64 ea) := by rw [hW0]; simp [go_sem]
  have k11 : W0.cell? ⟨w.heap.size + 1, 1, none⟩ = some (.int .i64 (1)) := by rw [hW0]; simp [go_sem]
  have k20 : W0.cell? ⟨w.heap.size + 1 + 1, 0, none⟩ = some (.int .i64 0) := by rw [hW0]; simp [go_sem]
  have k21 : W0.cell? ⟨w.heap.size + 1 + 1, 1, none⟩ = some (.int .i64 0) := by rw [hW0]; simp [go_sem]
  have k22 : W0.cell? ⟨w.heap.size + 1 + 1, 2, none⟩ = some (.slice none 0 0) := by rw [hW0]; simp [go_sem]
  have kfr : ∀ i, W0.frozen? ⟨w.heap.size + 1 + 1, i, none⟩ = false := fun i => by rw [hW0]; simp [go_sem]
  have HR := hide (fun V (g : Below W0.heap.size W0 V) => hr.below (HB.out.trans (g.mono HB.out.size)))
  have LL := hide (fun V (g : Below W0.heap.size W0 V) => l.step (HB.out.trans (g.mono HB.out.size)))
  have HK := hide (fun (V : World) (g : Below W0.heap.size W0 V) => And.intro ((g.cell (p := ⟨w.heap.size, 0, none⟩) (by dsimp only; omega)).trans k00) (And.intro ((g.cell (p := ⟨w.heap.size, 1, none⟩) (by dsimp only; omega)).trans k01) (And.intro ((g.cell (p := ⟨w.heap.size, 2, none⟩) (by dsimp only; omega)).trans k02) (And.intro ((g.cell (p := ⟨w.heap.size + 1, 0, none⟩) (by dsimp only; omega)).trans k10) (And.intro ((g.cell (p := ⟨w.heap.size + 1, 1, none⟩) (by dsimp only; omega)).trans k11) (And.intro ((g.cell (p := ⟨w.heap.size + 1 + 1, 0, none⟩) (by dsimp only; omega)).trans k20) (And.intro ((g.cell (p := ⟨w.heap.size + 1 + 1, 1, none⟩) (by dsimp only; omega)).trans k21) (And.intro ((g.cell (p := ⟨w.heap.size + 1 + 1, 2, none⟩) (by dsimp only; omega)).trans k22) (And.intro (show ∀ i, V.frozen? ⟨w.heap.size + 1 + 1, i, none⟩ = false from fun i => (g.frozen (p := ⟨w.heap.size + 1 + 1, i, none⟩) (by dsimp only; omega)).trans (kfr i)) g)))))))))
  have HS := hide hz
  have CK := hide (based (Nat.le_refl _) fun V (g : Below W0.heap.size W0 V) => Check_any B X a n cap A O V (LL.out V g) (HR.out V g))
  have CM := hide (based (Nat.le_refl _) fun V (g : Below W0.heap.size W0 V) => startsMonth_any ea V (LL.out V g))
  clear hW0 hz k00 k01 k02 k10 k11 k20 k21 k22 kfr l LL
  obtain ⟨x1, x2⟩ := (chkT_ok E.c).x
  obtain ⟨e1, e2⟩ := beg_bd E.b
  have hn := E.n
  rw [E.c] at CK
  rw [E.b] at CM
  have HEX := hide E
  have hq : -1000 ≤ O (n - 1) + (1) ∧ O (n - 1) + (1) ≤ 1000 := by have := E.o; unfold oldO at this; rw [if_neg (show ¬ n = 0 by omega)] at this; exact this
  obtain ⟨q5, q6⟩ := hq
  have hi := E.i h0
  have ho3 := (chkT_ok E.c).o (n - 1) (by omega)
  obtain ⟨ab, off, rfl, hlt, hc⟩ := hr.at_ h0
  obtain ⟨q0, q1⟩ := hc (n - 1) (by omega)
  obtain ⟨u, hu⟩ : ∃ u, u = A (n - 1) := ⟨_, rfl⟩
  obtain ⟨oo, hoo⟩ : ∃ o, o = O (n - 1) := ⟨_, rfl⟩
  rw [← hu] at q0 hi
  rw [← hoo] at q1 q5 q6 ho3
  obtain ⟨B1, B2⟩ := ho3
  have HE := hide (fun V (g : Below W0.heap.size W0 V) => And.intro ((g.cell (p := ⟨ab, off + (n - 1) * 2, none⟩) (by have := HB.out.size; dsimp only; omega)).trans ((HB.out.cell (p := ⟨ab, off + (n - 1) * 2, none⟩) hlt).trans q0)) ((g.cell (p := ⟨ab, off + (n - 1) * 2 + 1, none⟩) (by have := HB.out.size; dsimp only; omega)).trans ((HB.out.cell (p := ⟨ab, off + (n - 1) * 2 + 1, none⟩) hlt).trans q1)))
  obtain ⟨o, ho⟩ : ∃ o, o = oldO B O n + (1) := ⟨_, rfl⟩
  have ho2 : o = oo + (1) := by rw [ho]; unfold oldO; rw [if_neg (show ¬ n = 0 by omega), hoo]
  have HO := hide ho2
  have HOO := hide ho
  obtain ⟨i0, hi0, hz0, hz1, hz2⟩ := info_parts info_entry
  have HI0 := hide hi0
  have HZ0 := hide hz0
  have HZ1 := hide hz1
  have HZ2 := hide hz2
  clear hi0 hz0 hz1 hz2 ho ho2 E hr hc q0 q1 hu hoo
  go_enter Tryd.func16, Tryd.ntmps16
  go_wp2_with fail
  rw [← HH.out]
  with_reducible refine (CK.out _ hb0).mono ?_
  rintro e w1 ⟨rfl, b1⟩
  obtain ⟨k00, k01, k02, k10, k11, k20, k21, k22, kfr, _⟩ := HK.out _ b1
  go_wp2_with fail
  with_reducible refine (CM.out _ b1).mono ?_
  rintro e w2 ⟨rfl, b2⟩
  clear k00 k01 k02 k10 k11 k20 k21 k22 kfr
  obtain ⟨k00, k01, k02, k10, k11, k20, k21, k22, kfr, _⟩ := HK.out _ b2
  obtain ⟨q0, q1⟩ := HE.out _ b2
  go_wp2
  go_quiet (fail)
  have b2q := below_drewN b2 nq
  go_upto_region 16 with fail
  obtain ⟨V, hV⟩ : ∃ V, V = (w2.drewN nq) := ⟨_, rfl⟩
  rw [← hV] at b2q
  clear b1 b2 hb0 q0 q1
  clear k00 k01 k02 k10 k11 k20 k21 k22 kfr
  obtain ⟨k00, k01, k02, k10, k11, k20, k21, k22, kfr, _⟩ := HK.out _ b2q
  change Code.wp _ _ _ _ (w2.drewN nq)
  rw [← hV]
  clear hV
  have hsV := b2q.size
  go_upto_region 17 with (at_make; refine wpList_make_own _ rfl _ _ 22 rfl W0.heap.size 44 i0 _ 2 Tryd.underlying22 HI0.out HZ0.out HZ1.out .i64 .i64 _ (n + 1) rfl rfl (by first | rfl | simp | omega) (by rw [HZ2.out]; omega) (by unfold maxLen; omega) hsV ?_; intro w3 own3 g3; have b3 := make_below b2q g3; have OW3 := hide own3; clear own3 g3 k00 k01 k02 k10 k11 k20 k21 k22 kfr; obtain ⟨k00, k01, k02, k10, k11, k20, k21, k22, kfr, _⟩ := HK.out _ b3)
  have hs3 := b3.size
  go_upto_region 18 with (at_builtin; refine wpList_app _ rfl _ _ 22 rfl W0.heap.size 44 i0 _ 2 16 Tryd.underlying22 HI0.out HZ0.out HZ1.out HZ2.out rfl (by decide) _ 0 [] rfl OW3.out (some ⟨ab, off, none⟩) n _ (flat A O n) rfl (flat_src (HR.out _ b3)) (flat_one A O _) (by unfold maxLen; omega) (by omega) hs3 ?_; intro v4 w4 own4 g4 d4; have b4 := app_below b3 g4 OW3.out; have OW4 := hide own4; clear own4 g4 d4 k00 k01 k02 k10 k11 k20 k21 k22 kfr; obtain ⟨k00, k01, k02, k10, k11, k20, k21, k22, kfr, _⟩ := HK.out _ b4)
  have hs4 := b4.size
  go_upto_region 19 with (at_builtin; refine wpList_app _ rfl _ _ 22 rfl W0.heap.size 44 i0 _ 2 16 Tryd.underlying22 HI0.out HZ0.out HZ1.out HZ2.out rfl (by decide) _ _ _ rfl (OW4.out.alloc _) _ 1 _ [.int .i64 ea, .int .i64 o] rfl (src_block (by rw [HO.out]; exact heap_alloc_new w4 _) rfl) (by intro x hx; simp at hx; rcases hx with rfl | rfl <;> rfl) (by unfold maxLen; omega) (by omega) (by simp; omega) ?_; intro v5 w5 own5 g5 d5; have b5 := app_below (b4.alloc hs4 _) g5 (OW4.out.alloc _); have OW5 := hide own5; clear own5 g5 d5 k00 k01 k02 k10 k11 k20 k21 k22 kfr; obtain ⟨k00, k01, k02, k10, k11, k20, k21, k22, kfr, _⟩ := HK.out _ b5)
  have own : w5.ownsRow W0.heap.size 44 2 v5 (n + 1) (flat (upd A n ea) (upd O n o) (n + 1)) := by
    have q := OW5.out
    rw [Nat.zero_add, List.nil_append, flat_upd] at q
    exact q
  obtain ⟨p, c, hv, _⟩ := ents_own own (by omega)
  subst hv
  have hs5 := b5.size
  have HW := hide own
  have HF := hide (HB.out.trans (b5.mono HB.out.size))
  have hz := HS.out
  clear own OW5 OW4 OW3 b2q b3 b4 b5
  go_wp2
  all_goals
    refine bodyPost_ret (v := .tuple #[.agg #[.int .i64 B, .int .i64 (max X (ea + 1)), .slice p (n + 1) c], .int .i64 0]) (by simp [results, Tryd.results16, go_sem, *]; try omega) rfl ?_
    refine ⟨⟨p, c, rfl, ?_⟩, ?_⟩
    · rw [← HOO.out]
      refine ents_own' (base := W0.heap.size) (e := 44) (c := c) ?_ (by omega)
      repeat (with_reducible refine ownsRow_setCell_below ?_ (by dsimp only; omega) _)
      exact HW.out
    · repeat (with_reducible refine Below.setCell ?_ (by first | (dsimp only; omega) | (simp; omega)) _)
      exact HF.out
set_option maxRecDepth 100000 in
set_option maxHeartbeats 3200000 in
theorem PExt_oknm (B X : Int) (a : Option Addr) (n cap : Nat) (A O : Nat → Int) (ea : Int) (w : World) (l : Laid w) (hr : Ents w a n A O) (E : ExtOk B X A O n ea (-1)) (h0 : 0 < n) :
    Calls Tryd.prog 16 #[.agg #[.int .i64 B, .int .i64 X, .slice a n cap], .agg #[.int .i64 ea, .int .i64 (-1)]] w fun e w' => ExtIs B X A O n ea (-1) e w' ∧ Below w.heap.size w w' := by
  obtain ⟨W0, hW0⟩ : ∃ W0, W0 = (((w.alloc (.cells #[.int .i64 B, .int .i64 X, .slice a n cap] 24)).alloc (.cells #[.int .i64 ea, .int .i64 (-1)] 44)).alloc (.cells #[.int .i64 0, .int .i64 0, .slice none 0 0] 24)) := ⟨_, rfl⟩
  have HH := hide hW0
  have hz : W0.heap.size = w.heap.size + 3 := by rw [hW0]; simp
  have hb0 := Below.refl W0.heap.size W0
  have HB : Hid (Below w.heap.size w W0) := hide (by rw [hW0]; exact ((((Below.refl _ _).alloc (Nat.le_refl _) _).alloc (by simp) _).alloc (by simp; omega) _))
  have k00 : W0.cell? ⟨w.heap.size, 0, none⟩ = some (.int .i64 B) := by rw [hW0]; simp [go_sem]
  have k01 : W0.cell? ⟨w.heap.size, 1, none⟩ = some (.int .i64 X) := by rw [hW0]; simp [go_sem]
  have k02 : W0.cell? ⟨w.heap.size, 2, none⟩ = some (.slice a n cap) := by rw [hW0]; simp [go_sem]
  have k10 : W0.cell? ⟨w.heap.size + 1, 0, none⟩ = some (.int .i64 ea) := by rw [hW0]; simp [go_sem]
  have k11 : W0.cell? ⟨w.heap.size + 1, 1, none⟩ = some (.int .i64 (-1)) := by rw [hW0]; simp [go_sem]
  have k20 : W0.cell? ⟨w.heap.size + 1 + 1, 0, none⟩ = some (.int .i64 0) := by rw [hW0]; simp [go_sem]
  have k21 : W0.cell? ⟨w.heap.size + 1 + 1, 1, none⟩ = some (.int .i64 0) := by rw [hW0]; simp [go_sem]
  have k22 : W0.cell? ⟨w.heap.size + 1 + 1, 2, none⟩ = some (.slice none 0 0) := by rw [hW0]; simp [go_sem]
  have kfr : ∀ i, W0.frozen? ⟨w.heap.size + 1 + 1, i, none⟩ = false := fun i => by rw [hW0]; simp [go_sem]
  have HR := hide (fun V (g : Below W0.heap.size W0 V) => hr.below (HB.out.trans (g.mono HB.out.size)))
  have LL := hide (fun V (g : Below W0.heap.size W0 V) => l.step (HB.out.trans (g.mono HB.out.size)))
  have HK := hide (fun (V : World) (g : Below W0.heap.size W0 V) => And.intro ((g.cell (p := ⟨w.heap.size, 0, none⟩) (by dsimp only; omega)).trans k00) (And.intro ((g.cell (p := ⟨w.heap.size, 1, none⟩) (by dsimp only; omega)).trans k01) (And.intro ((g.cell (p := ⟨w.heap.size, 2, none⟩) (by dsimp only; omega)).trans k02) (And.intro ((g.cell (p := ⟨w.heap.size + 1, 0, none⟩) (by dsimp only; omega)).trans k10) (And.intro ((g.cell (p := ⟨w.heap.size + 1, 1, none⟩) (by dsimp only; omega)).trans k11) (And.intro ((g.cell (p := ⟨w.heap.size + 1 + 1, 0, none⟩) (by dsimp only; omega)).trans k20) (And.intro ((g.cell (p := ⟨w.heap.size + 1 + 1, 1, none⟩) (by dsimp only; omega)).trans k21) (And.intro ((g.cell (p := ⟨w.heap.size + 1 + 1, 2, none⟩) (by dsimp only; omega)).trans k22) (And.intro (show ∀ i, V.frozen? ⟨w.heap.size + 1 + 1, i, none⟩ = false from fun i => (g.frozen (p := ⟨w.heap.size + 1 + 1, i, none⟩) (by dsimp only; omega)).trans (kfr i)) g)))))))))
  have HS := hide hz
  have CK := hide (based (Nat.le_refl _) fun V (g : Below W0.heap.size W0 V) => Check_any B X a n cap A O V (LL.out V g) (HR.out V g))
  have CM := hide (based (Nat.le_refl _) fun V (g : Below W0.heap.size W0 V) => startsMonth_any ea V (LL.out V g))
  clear hW0 hz k00 k01 k02 k10 k11 k20 k21 k22 kfr l LL
  obtain ⟨x1, x2⟩ := (chkT_ok E.c).x
  obtain ⟨e1, e2⟩ := beg_bd E.b
  have hn := E.n
  rw [E.c] at CK
  rw [E.b] at CM
  have HEX := hide E
  have hq : -1000 ≤ O (n - 1) + (-1) ∧ O (n - 1) + (-1) ≤ 1000 := by have := E.o; unfold oldO at this; rw [if_neg (show ¬ n = 0 by omega)] at this; exact this
  obtain ⟨q5, q6⟩ := hq
  have hi := E.i h0
  have ho3 := (chkT_ok E.c).o (n - 1) (by omega)
  obtain ⟨ab, off, rfl, hlt, hc⟩ := hr.at_ h0
  obtain ⟨q0, q1⟩ := hc (n - 1) (by omega)
  obtain ⟨u, hu⟩ : ∃ u, u = A (n - 1) := ⟨_, rfl⟩
  obtain ⟨oo, hoo⟩ : ∃ o, o = O (n - 1) := ⟨_, rfl⟩
  rw [← hu] at q0 hi
  rw [← hoo] at q1 q5 q6 ho3
  obtain ⟨B1, B2⟩ := ho3
  have HE := hide (fun V (g : Below W0.heap.size W0 V) => And.intro ((g.cell (p := ⟨ab, off + (n - 1) * 2, none⟩) (by have := HB.out.size; dsimp only; omega)).trans ((HB.out.cell (p := ⟨ab, off + (n - 1) * 2, none⟩) hlt).trans q0)) ((g.cell (p := ⟨ab, off + (n - 1) * 2 + 1, none⟩) (by have := HB.out.size; dsimp only; omega)).trans ((HB.out.cell (p := ⟨ab, off + (n - 1) * 2 + 1, none⟩) hlt).trans q1)))
  obtain ⟨o, ho⟩ : ∃ o, o = oldO B O n + (-1) := ⟨_, rfl⟩
  have ho2 : o = oo + (-1) := by rw [ho]; unfold oldO; rw [if_neg (show ¬ n = 0 by omega), hoo]
  have HO := hide ho2
  have HOO := hide ho
  obtain ⟨i0, hi0, hz0, hz1, hz2⟩ := info_parts info_entry
  have HI0 := hide hi0
  have HZ0 := hide hz0
  have HZ1 := hide hz1
  have HZ2 := hide hz2
  clear hi0 hz0 hz1 hz2 ho ho2 E hr hc q0 q1 hu hoo
  go_enter Tryd.func16, Tryd.ntmps16
  go_wp2_with fail
  rw [← HH.out]
  with_reducible refine (CK.out _ hb0).mono ?_
  rintro e w1 ⟨rfl, b1⟩
  obtain ⟨k00, k01, k02, k10, k11, k20, k21, k22, kfr, _⟩ := HK.out _ b1
  go_wp2_with fail
  with_reducible refine (CM.out _ b1).mono ?_
  rintro e w2 ⟨rfl, b2⟩
  clear k00 k01 k02 k10 k11 k20 k21 k22 kfr
  obtain ⟨k00, k01, k02, k10, k11, k20, k21, k22, kfr, _⟩ := HK.out _ b2
  obtain ⟨q0, q1⟩ := HE.out _ b2
  go_wp2
  go_quiet (fail)
  have b2q := below_drewN b2 nq
  go_upto_region 16 with fail
  obtain ⟨V, hV⟩ : ∃ V, V = (w2.drewN nq) := ⟨_, rfl⟩
  rw [← hV] at b2q
  clear b1 b2 hb0 q0 q1
  clear k00 k01 k02 k10 k11 k20 k21 k22 kfr
  obtain ⟨k00, k01, k02, k10, k11, k20, k21, k22, kfr, _⟩ := HK.out _ b2q
  change Code.wp _ _ _ _ (w2.drewN nq)
  rw [← hV]
  clear hV
  have hsV := b2q.size
  go_upto_region 17 with (at_make; refine wpList_make_own _ rfl _ _ 22 rfl W0.heap.size 44 i0 _ 2 Tryd.underlying22 HI0.out HZ0.out HZ1.out .i64 .i64 _ (n + 1) rfl rfl (by first | rfl | simp | omega) (by rw [HZ2.out]; omega) (by unfold maxLen; omega) hsV ?_; intro w3 own3 g3; have b3 := make_below b2q g3; have OW3 := hide own3; clear own3 g3 k00 k01 k02 k10 k11 k20 k21 k22 kfr; obtain ⟨k00, k01, k02, k10, k11, k20, k21, k22, kfr, _⟩ := HK.out _ b3)
  have hs3 := b3.size
  go_upto_region 18 with (at_builtin; refine wpList_app _ rfl _ _ 22 rfl W0.heap.size 44 i0 _ 2 16 Tryd.underlying22 HI0.out HZ0.out HZ1.out HZ2.out rfl (by decide) _ 0 [] rfl OW3.out (some ⟨ab, off, none⟩) n _ (flat A O n) rfl (flat_src (HR.out _ b3)) (flat_one A O _) (by unfold maxLen; omega) (by omega) hs3 ?_; intro v4 w4 own4 g4 d4; have b4 := app_below b3 g4 OW3.out; have OW4 := hide own4; clear own4 g4 d4 k00 k01 k02 k10 k11 k20 k21 k22 kfr; obtain ⟨k00, k01, k02, k10, k11, k20, k21, k22, kfr, _⟩ := HK.out _ b4)
  have hs4 := b4.size
  go_upto_region 19 with (at_builtin; refine wpList_app _ rfl _ _ 22 rfl W0.heap.size 44 i0 _ 2 16 Tryd.underlying22 HI0.out HZ0.out HZ1.out HZ2.out rfl (by decide) _ _ _ rfl (OW4.out.alloc _) _ 1 _ [.int .i64 ea, .int .i64 o] rfl (src_block (by rw [HO.out]; exact heap_alloc_new w4 _) rfl) (by intro x hx; simp at hx; rcases hx with rfl | rfl <;> rfl) (by unfold maxLen; omega) (by omega) (by simp; omega) ?_; intro v5 w5 own5 g5 d5; have b5 := app_below (b4.alloc hs4 _) g5 (OW4.out.alloc _); have OW5 := hide own5; clear own5 g5 d5 k00 k01 k02 k10 k11 k20 k21 k22 kfr; obtain ⟨k00, k01, k02, k10, k11, k20, k21, k22, kfr, _⟩ := HK.out _ b5)
  have own : w5.ownsRow W0.heap.size 44 2 v5 (n + 1) (flat (upd A n ea) (upd O n o) (n + 1)) := by
    have q := OW5.out
    rw [Nat.zero_add, List.nil_append, flat_upd] at q
    exact q
  obtain ⟨p, c, hv, _⟩ := ents_own own (by omega)
  subst hv
  have hs5 := b5.size
  have HW := hide own
  have HF := hide (HB.out.trans (b5.mono HB.out.size))
  have hz := HS.out
  clear own OW5 OW4 OW3 b2q b3 b4 b5
  go_wp2
  all_goals
    refine bodyPost_ret (v := .tuple #[.agg #[.int .i64 B, .int .i64 (max X (ea + 1)), .slice p (n + 1) c], .int .i64 0]) (by simp [results, Tryd.results16, go_sem, *]; try omega) rfl ?_
    refine ⟨⟨p, c, rfl, ?_⟩, ?_⟩
    · rw [← HOO.out]
      refine ents_own' (base := W0.heap.size) (e := 44) (c := c) ?_ (by omega)
      repeat (with_reducible refine ownsRow_setCell_below ?_ (by dsimp only; omega) _)
      exact HW.out
    · repeat (with_reducible refine Below.setCell ?_ (by first | (dsimp only; omega) | (simp; omega)) _)
      exact HF.out
end Go.Proofs.YtnmpoeljjajdiaaDoor.Vot
