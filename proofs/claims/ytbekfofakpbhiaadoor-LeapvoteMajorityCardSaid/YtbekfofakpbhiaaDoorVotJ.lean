
/- The contracts of layer 54: Extend of the reference where it succeeds. -/
import Derived.Test.YtbekfofakpbhiaaDoorVotI
namespace Go.Proofs.YtbekfofakpbhiaaDoor.Vot
open Go.RowKit Aid Civ Leap App
def BoxAt (w : World) (b : Nat) (B M : Int) (v : Value) : Prop := w.heap[b]? = some (.cells #[.int .i64 B, .int .i64 M, v] 43 (0, 0))
theorem box_new (w : World) (B M : Int) (v : Value) : BoxAt (w.alloc (.cells #[.int .i64 B, .int .i64 M, v] 43)) w.heap.size B M v := heap_alloc_new w _
theorem BoxAt.cells {w : World} {b : Nat} {B M : Int} {v : Value} (h : BoxAt w b B M v) : w.cell? ⟨b, 0, none⟩ = some (.int .i64 B) ∧ w.cell? ⟨b, 1, none⟩ = some (.int .i64 M) ∧ w.cell? ⟨b, 2, none⟩ = some v ∧ ∀ i, w.frozen? ⟨b, i, none⟩ = false :=
  ⟨cell_of_row w b 0 _ _ _ h, cell_of_row w b 1 _ _ _ h, cell_of_row w b 2 _ _ _ h, fun i => by unfold BoxAt at h; simp [World.frozen?, h]⟩
theorem BoxAt.put {w : World} {b : Nat} {B M : Int} {v : Value} (h : BoxAt w b B M v) (u : Value) : BoxAt (w.setCell ⟨b, 2, none⟩ u) b B M u := by
  unfold BoxAt at *
  simp [World.setCell, Array.getElem?_modify, h]
theorem BoxAt.below {w w' : World} {b K : Nat} {B M : Int} {v : Value} (h : BoxAt w b B M v) (hb : Below K w w') (hg : b < K) : BoxAt w' b B M v := (hb.block b hg).trans h
set_option maxRecDepth 100000 in
set_option maxHeartbeats 3200000 in
theorem RExt_ok (B X : Int) (a : Option Addr) (n cap : Nat) (A O : Nat → Int) (ea ef : Int) (w : World) (hr : Ents w a n A O) (E : ExtOk B X A O n ea ef) :
    Calls Tryd.prog 20 #[.agg #[.int .i64 B, .int .i64 X, .slice a n cap], .agg #[.int .i64 ea, .int .i64 ef]] w fun e w' => ExtIs B X A O n ea ef e w' ∧ Below w.heap.size w w' := by
  obtain ⟨W0, hW0⟩ : ∃ W0, W0 = (((w.alloc (.cells #[.int .i64 B, .int .i64 X, .slice a n cap] 43)).alloc (.cells #[.int .i64 ea, .int .i64 ef] 36)).alloc (.cells #[.int .i64 0, .int .i64 0, .slice none 0 0] 43)) := ⟨_, rfl⟩
  have HH := hide hW0
  have hz : W0.heap.size = w.heap.size + 3 := by rw [hW0]; simp
  have hb0 := Below.refl W0.heap.size W0
  have HB : Hid (Below w.heap.size w W0) := hide (by rw [hW0]; exact ((((Below.refl _ _).alloc (Nat.le_refl _) _).alloc (by simp) _).alloc (by simp; omega) _))
  have k00 : W0.cell? ⟨w.heap.size, 0, none⟩ = some (.int .i64 B) := by rw [hW0]; simp [go_sem]
  have k01 : W0.cell? ⟨w.heap.size, 1, none⟩ = some (.int .i64 X) := by rw [hW0]; simp [go_sem]
  have k02 : W0.cell? ⟨w.heap.size, 2, none⟩ = some (.slice a n cap) := by rw [hW0]; simp [go_sem]
  have k10 : W0.cell? ⟨w.heap.size + 1, 0, none⟩ = some (.int .i64 ea) := by rw [hW0]; simp [go_sem]
  have k11 : W0.cell? ⟨w.heap.size + 1, 1, none⟩ = some (.int .i64 ef) := by rw [hW0]; simp [go_sem]
  have k20 : W0.cell? ⟨w.heap.size + 1 + 1, 0, none⟩ = some (.int .i64 0) := by rw [hW0]; simp [go_sem]
  have k21 : W0.cell? ⟨w.heap.size + 1 + 1, 1, none⟩ = some (.int .i64 0) := by rw [hW0]; simp [go_sem]
  have k22 : W0.cell? ⟨w.heap.size + 1 + 1, 2, none⟩ = some (.slice none 0 0) := by rw [hW0]; simp [go_sem]
  have kfr : ∀ i, W0.frozen? ⟨w.heap.size + 1 + 1, i, none⟩ = false := fun i => by rw [hW0]; simp [go_sem]
  have HR := hide (fun V (g : Below W0.heap.size W0 V) => hr.below (HB.out.trans (g.mono HB.out.size)))
  have HK := hide (fun (V : World) (g : Below W0.heap.size W0 V) => And.intro ((g.cell (p := ⟨w.heap.size, 0, none⟩) (by dsimp only; omega)).trans k00) (And.intro ((g.cell (p := ⟨w.heap.size, 1, none⟩) (by dsimp only; omega)).trans k01) (And.intro ((g.cell (p := ⟨w.heap.size, 2, none⟩) (by dsimp only; omega)).trans k02) (And.intro ((g.cell (p := ⟨w.heap.size + 1, 0, none⟩) (by dsimp only; omega)).trans k10) (And.intro ((g.cell (p := ⟨w.heap.size + 1, 1, none⟩) (by dsimp only; omega)).trans k11) (And.intro ((g.cell (p := ⟨w.heap.size + 1 + 1, 0, none⟩) (by dsimp only; omega)).trans k20) (And.intro ((g.cell (p := ⟨w.heap.size + 1 + 1, 1, none⟩) (by dsimp only; omega)).trans k21) (And.intro ((g.cell (p := ⟨w.heap.size + 1 + 1, 2, none⟩) (by dsimp only; omega)).trans k22) (And.intro (show ∀ i, V.frozen? ⟨w.heap.size + 1 + 1, i, none⟩ = false from fun i => (g.frozen (p := ⟨w.heap.size + 1 + 1, i, none⟩) (by dsimp only; omega)).trans (kfr i)) g)))))))))
  have HS := hide hz
  have CK := hide (based (Nat.le_refl _) fun V (g : Below W0.heap.size W0 V) => RCheck_any B X a n cap A O V (HR.out V g))
  have CM := hide (based (Nat.le_refl _) fun V (_ : Below W0.heap.size W0 V) => first_any ea V)
  clear hW0 hz k00 k01 k02 k10 k11 k20 k21 k22 kfr
  obtain ⟨x1, x2⟩ := (chkT_ok E.c).x
  obtain ⟨e1, e2⟩ := beg_bd E.b
  have hn := E.n
  have hn2 : ((n : Int) == 64) = false := by simp; omega
  obtain ⟨B1, B2⟩ := (chkT_ok E.c).b
  have HO3 := hide (chkT_ok E.c).o
  rw [E.c] at CK
  rw [E.b] at CM
  have HEX := hide E
  have HF1 := hide E.f
  have HI := hide E.i
  have hq := E.o
  obtain ⟨oo, hoo⟩ : ∃ oo, oo = oldO B O n := ⟨_, rfl⟩
  rw [← hoo] at hq
  obtain ⟨q5, q6⟩ := hq
  have HOO := hide hoo
  obtain ⟨o, ho⟩ : ∃ o, o = oo + ef := ⟨_, rfl⟩
  have HO := hide ho
  obtain ⟨M, hM⟩ : ∃ M, M = max X (ea + 1) := ⟨_, rfl⟩
  have CE := hide (fun V p c (h : Ents V p (n + 1) (upd A n ea) (upd O n (oldO B O n + ef))) => RCheck_any B (max X (ea + 1)) p (n + 1) c _ _ V h)
  rw [E.check] at CE
  have ob : -1000 ≤ oo ∧ oo ≤ 1000 := by
    rw [hoo]; unfold oldO
    by_cases h0 : n = 0
    · rw [if_pos h0]; exact ⟨B1, B2⟩
    · rw [if_neg h0]; exact HO3.out (n - 1) (by omega)
  obtain ⟨o1, o2⟩ := ob
  obtain ⟨i0, hi0, hz0, hz1, hz2⟩ := info_parts info_entry
  have HI0 := hide hi0
  have HZ0 := hide hz0
  have HZ1 := hide hz1
  have HZ2 := hide hz2
  have HRR := hide hr
  rw [← hM, ← hoo, ← ho] at CE
  have HM := hide hM
  clear hi0 hz0 hz1 hz2 ho E hr hoo hM
  go_enter Tryd.func20, Tryd.ntmps20
  go_wp2_with fail
  rw [← HH.out]
  with_reducible refine (CK.out _ hb0).mono ?_
  rintro e w1 ⟨rfl, b1⟩
  obtain ⟨k00, k01, k02, k10, k11, k20, k21, k22, kfr, _⟩ := HK.out _ b1
  go_wp2_with fail
  with_reducible refine (CM.out _ b1).mono ?_
  rintro e w2 ⟨rfl, b2⟩
  clear k00 k01 k02 k10 k11 k20 k21 k22 kfr
  obtain ⟨k00, k01, k02, k10, k11, k20, k21, k22, kfr, _⟩ := HK.out _ b2
  go_upto_if 28 with fail
  go_cut [8] (fun c wx => c = .int .i64 oo ∧ Below W0.heap.size W0 wx)
  case first =>
    by_cases h0 : n = 0
    · subst h0
      go_wp2
      go_meet
      exact ⟨by rw [HOO.out]; rfl, b2⟩
    · obtain ⟨ab, off, rfl, hlt, hc⟩ := HRR.out.at_ (by omega)
      obtain ⟨q0, q1⟩ := hc (n - 1) (by omega)
      have q0 := (b2.cell (p := ⟨ab, off + (n - 1) * 2, none⟩) (by have := HB.out.size; dsimp only; omega)).trans ((HB.out.cell (p := ⟨ab, off + (n - 1) * 2, none⟩) hlt).trans q0)
      have q1 := (b2.cell (p := ⟨ab, off + (n - 1) * 2 + 1, none⟩) (by have := HB.out.size; dsimp only; omega)).trans ((HB.out.cell (p := ⟨ab, off + (n - 1) * 2 + 1, none⟩) hlt).trans q1)
      have hi := HI.out (by omega)
      have hoo : O (n - 1) = oo := by rw [HOO.out]; unfold oldO; rw [if_neg h0]
      rw [hoo] at q1
      have h0p : 0 < n := by omega
      obtain ⟨u, hu⟩ : ∃ u, u = A (n - 1) := ⟨_, rfl⟩
      rw [← hu] at q0 hi
      have HB2 := hide b2
      clear hc hoo hu b2 hb0 b1
      go_wp2
      go_quiet (fail)
      go_wp2
      go_meet
      exact ⟨rfl, below_drewN HB2.out _⟩
  case rest =>
    obtain ⟨rfl, bc⟩ := hcut
    clear b1 b2 hb0 k00 k01 k02 k10 k11 k20 k21 k22 kfr
    obtain ⟨k00, k01, k02, k10, k11, k20, k21, k22, kfr, _⟩ := HK.out _ bc
    go_upto_region 12 with fail
    go_cut [68] (fun c wx => c = .bool false ∧ wx = wc)
    case first =>
      rcases HF1.out with rfl | rfl
      all_goals
        go_wp2
        go_meet
        exact ⟨by simp; omega, rfl⟩
    case rest =>
      obtain ⟨rfl, rfl⟩ := hcut
      go_upto_region 16 with fail
      go_cut [9] (fun c wx => c = .pointer (some ⟨wc.heap.size, 0, none⟩) ∧ wx = wc.alloc (.cells #[.int .i64 B, .int .i64 M, .slice none 0 0] 43))
      case first =>
        rcases (show (X < ea + 1 ∧ M = ea + 1) ∨ (ea + 1 ≤ X ∧ M = X) by have := HM.out; omega) with ⟨hm1, rfl⟩ | ⟨hm1, rfl⟩
        all_goals
          go_wp2
          go_meet
          exact ⟨rfl, rfl⟩
      case rest =>
        obtain ⟨rfl, rfl⟩ := hcut
        have hsc := bc.size
        have BX := hide (box_new wc B M (.slice none 0 0))
        have bv : Below W0.heap.size W0 (wc.alloc (.cells #[.int .i64 B, .int .i64 M, .slice none 0 0] 43)) := bc.alloc hsc _
        obtain ⟨V3, hV3⟩ : ∃ V3, V3 = wc.alloc (.cells #[.int .i64 B, .int .i64 M, .slice none 0 0] 43) := ⟨_, rfl⟩
        have hs3 : V3.heap.size = wc.heap.size + 1 := by rw [hV3]; simp
        rw [← hV3] at BX bv ⊢
        clear hV3
        have b30 := Below.refl V3.heap.size V3
        clear bc k00 k01 k02 k10 k11 k20 k21 k22 kfr
        obtain ⟨k00, k01, k02, k10, k11, k20, k21, k22, kfr, _⟩ := HK.out _ bv
        obtain ⟨j0, j1, j2, jf⟩ := BX.out.cells
        have HB30 := hide b30
        have HBV := hide bv
        clear b30 bv
        go_upto_region 18 with (at_builtin; refine wpList_app _ rfl _ _ 41 rfl V3.heap.size 36 i0 _ 2 16 Tryd.underlying41 HI0.out HZ0.out HZ1.out HZ2.out rfl (by decide) _ 0 [] rfl (World.ownsRow_nil _ _ _ _) a n cap (flat A O n) rfl (flat_src (HR.out _ HBV.out)) (flat_one A O _) (by unfold maxLen; omega) (by omega) (Nat.le_refl _) ?_)
        intro v4 w4 own4 g4 d4
        have b4 := app_below (e := 36) (size := 2) HB30.out g4 (World.ownsRow_nil _ _ _ _)
        have bv4 := HBV.out.trans (b4.mono HBV.out.size)
        have BX4 := BX.out.below b4 (by omega)
        rw [← hs3] at own4
        obtain ⟨p4, c4, hv4, _⟩ := ents_own own4 (by omega)
        subst hv4
        have own4q := own4
        clear own4 g4 d4 k00 k01 k02 k10 k11 k20 k21 k22 kfr j0 j1 j2 jf
        obtain ⟨k00, k01, k02, k10, k11, k20, k21, k22, kfr, _⟩ := HK.out _ bv4
        obtain ⟨j0, j1, j2, jf⟩ := BX4.cells
        have OW4 := hide own4q
        have HBX4 := hide BX4
        have HB4 := hide b4
        have HV4 := hide bv4
        clear own4q BX4 b4 bv4
        go_upto_region 18 with fail
        have hs4 := HB4.out.size
        have BX5 := HBX4.out.put (.slice p4 n c4)
        have OW5 : (w4.setCell ⟨wc.heap.size, 2, none⟩ (.slice p4 n c4)).ownsRow V3.heap.size 36 2 (.slice p4 n c4) n (flat A O n) := ownsRow_setCell_below OW4.out (by dsimp only; omega) _
        have bv5 : Below W0.heap.size W0 (w4.setCell ⟨wc.heap.size, 2, none⟩ (.slice p4 n c4)) := HV4.out.setCell (by dsimp only; omega) _
        have hs5 : V3.heap.size ≤ (w4.setCell ⟨wc.heap.size, 2, none⟩ (.slice p4 n c4)).heap.size := by simpa [World.setCell] using hs4
        clear k00 k01 k02 k10 k11 k20 k21 k22 kfr j0 j1 j2 jf HBX4 HB4 HV4 OW4
        change Code.wp _ _ _ _ (w4.setCell ⟨wc.heap.size, 2, none⟩ (.slice p4 n c4))
        generalize (w4.setCell ⟨wc.heap.size, 2, none⟩ (.slice p4 n c4)) = w5 at *
        clear hs4
        obtain ⟨k00, k01, k02, k10, k11, k20, k21, k22, kfr, _⟩ := HK.out _ bv5
        obtain ⟨j0, j1, j2, jf⟩ := BX5.cells
        have HBX5 := hide BX5
        have HOW5 := hide OW5
        have HV5 := hide bv5
        clear BX5 OW5 bv5
        go_upto_region 19 with (at_builtin; refine wpList_app _ rfl _ _ 41 rfl V3.heap.size 36 i0 _ 2 16 Tryd.underlying41 HI0.out HZ0.out HZ1.out HZ2.out rfl (by decide) (.slice p4 n c4) n (flat A O n) rfl (HOW5.out.alloc _) _ 1 _ [.int .i64 ea, .int .i64 o] rfl (src_block (by rw [HO.out]; exact heap_alloc_new w5 _) rfl) (by intro x hx; simp at hx; rcases hx with rfl | rfl <;> rfl) (by unfold maxLen; omega) (by omega) (by simp; omega) ?_)
        intro v6 w6 own6 g6 d6
        have hbx : Below V3.heap.size V3 V3 := Below.refl _ _
        have b6 : Below V3.heap.size w5 w6 := ((Below.refl V3.heap.size w5).alloc hs5 _).grown g6 (by simp; omega) (fun k q => (HOW5.out.lt k q).1)
        have bv6 := HV5.out.trans (b6.mono (by have := HBV.out.size; omega))
        have BX6 := HBX5.out.below b6 (by omega)
        rw [← hs3, flat_upd] at own6
        obtain ⟨p, c, hv, _⟩ := ents_own own6 (by omega)
        subst hv
        clear g6 d6 k00 k01 k02 k10 k11 k20 k21 k22 kfr j0 j1 j2 jf hbx
        obtain ⟨k00, k01, k02, k10, k11, k20, k21, k22, kfr, _⟩ := HK.out _ bv6
        obtain ⟨j0, j1, j2, jf⟩ := BX6.cells
        have OW6 := hide own6
        have HBX6 := hide BX6
        have HB6 := hide b6
        have HV6 := hide bv6
        clear own6 BX6 b6 bv6
        go_upto_region 19 with fail
        have hs6 := HB6.out.size
        have BX7 := HBX6.out.put (.slice p (n + 1) c)
        have OW7 : (w6.setCell ⟨wc.heap.size, 2, none⟩ (.slice p (n + 1) c)).ownsRow V3.heap.size 36 2 (.slice p (n + 1) c) (n + 1) (flat (upd A n ea) (upd O n o) (n + 1)) := ownsRow_setCell_below OW6.out (by dsimp only; omega) _
        have bv7 : Below W0.heap.size W0 (w6.setCell ⟨wc.heap.size, 2, none⟩ (.slice p (n + 1) c)) := HV6.out.setCell (by dsimp only; omega) _
        have hs7 : V3.heap.size ≤ (w6.setCell ⟨wc.heap.size, 2, none⟩ (.slice p (n + 1) c)).heap.size := by simp [World.setCell]; omega
        clear k00 k01 k02 k10 k11 k20 k21 k22 kfr j0 j1 j2 jf HBX6 HB6 HV6 OW6 HBX5 HOW5 HV5
        change Code.wp _ _ _ _ (w6.setCell ⟨wc.heap.size, 2, none⟩ (.slice p (n + 1) c))
        generalize (w6.setCell ⟨wc.heap.size, 2, none⟩ (.slice p (n + 1) c)) = w7 at *
        clear hs6 hs5
        have he := ents_own' OW7 (by omega)
        have CE7 := CE.out w7 p c he
        obtain ⟨k00, k01, k02, k10, k11, k20, k21, k22, kfr, _⟩ := HK.out _ bv7
        obtain ⟨j0, j1, j2, jf⟩ := BX7.cells
        have HBX7 := hide BX7
        have HOW7 := hide OW7
        have HV7 := hide bv7
        have HCE := hide CE7
        clear BX7 OW7 bv7 CE7 he
        go_wp2_with fail
        with_reducible refine HCE.out.mono ?_
        rintro e w8 ⟨rfl, b8⟩
        have bv8 := HV7.out.trans (b8.mono (by have := HV7.out.size; omega))
        have BX8 := HBX7.out.below b8 (by omega)
        have OW8 : w8.ownsRow V3.heap.size 36 2 (.slice p (n + 1) c) (n + 1) (flat (upd A n ea) (upd O n o) (n + 1)) := HOW7.out.kept (row := none) ⟨b8.os, b8.tape, b8.output, b8.size, fun k hk _ => b8.block k hk⟩ (by cases Value.ownBlock (.slice p (n + 1) c) <;> simp)
        clear b8 k00 k01 k02 k10 k11 k20 k21 k22 kfr j0 j1 j2 jf HBX7 HOW7 HV7 HCE
        obtain ⟨k00, k01, k02, k10, k11, k20, k21, k22, kfr, _⟩ := HK.out _ bv8
        obtain ⟨j0, j1, j2, jf⟩ := BX8.cells
        have HV8 := hide bv8
        have HOW8 := hide OW8
        have hz := HS.out
        clear bv8 BX8 OW8
        go_wp2
        all_goals
          refine bodyPost_ret (v := .tuple #[.agg #[.int .i64 B, .int .i64 M, .slice p (n + 1) c], .int .i64 0]) (by simp [results, Tryd.results20, go_sem, *]; try omega) rfl ?_
          have hs0 := HBV.out.size
          refine ⟨⟨p, c, by rw [HM.out], ?_⟩, ?_⟩
          · rw [← HOO.out, ← HO.out]
            refine ents_own' (base := V3.heap.size) (e := 36) (c := c) ?_ (by omega)
            repeat (with_reducible refine ownsRow_setCell_below ?_ (by dsimp only; omega) _)
            exact HOW8.out
          · repeat (with_reducible refine Below.setCell ?_ (by first | (dsimp only; omega) | (simp; omega)) _)
            exact HB.out.trans (HV8.out.mono HB.out.size)
end Go.Proofs.YtbekfofakpbhiaaDoor.Vot
