/- The walk of the law CivilNext. -/
import Derived.Test.YtbhpceghgjognaaDoorCivY
import Derived.Test.YtbhpceghgjognaaDoorCivW
namespace Go.Proofs.YtbhpceghgjognaaDoor.Civ
open Go.RowKit Aid
set_option maxRecDepth 100000 in
set_option maxHeartbeats 6400000 in
theorem Next_same (sec : Int) (w : World) (l : Laid5 w) (hr : -8000000000 ≤ sec ∧ sec < 8000000000) (y d H I S y' d' H' I' S' : Int) (M M' : Nat) (m0 k0 k1 : Int) (e1 : ofV sec = .agg #[.int .i64 y, .int .i64 (M : Int), .int .i64 d, .int .i64 H, .int .i64 I, .int .i64 S, .int .i64 0])
    (e2 : ofV (sec + 1) = .agg #[.int .i64 y', .int .i64 (M' : Int), .int .i64 d', .int .i64 H', .int .i64 I', .int .i64 S', .int .i64 0]) (v : Valid y (M : Int) d H I S 0) (N : Next y d H I S M y' d' H' I' S' M') (hd : (d' != d) = false)
    (f0 : sec / 86400 + 15020 = m0) (f1 : (sec + 1) / 86400 + 15020 = m0 + 0) (r0 : wkV sec = k0) (r1 : wkV (sec + 1) = k1) (b1 : -200000 ≤ m0) (b2 : m0 ≤ 200000) (s1 : 0 ≤ k0) (s2 : k0 ≤ 6) (t1 : (k0 + 0) % 7 = k1) (t2 : (k0 + 0).tmod 7 = k1) (hs : m0 + 0 - m0 = 0) :
    Calls Tryd.prog 7 #[.int .i64 sec] w fun e w' => e = .returned (.bool true) ∧ Below w.heap.size w w' := by
  have HL := hide (fun W (q : Below w.heap.size w W) => l.step q)
  have CA := hide awake_any
  have c1 := Of_ok sec w l.laid ⟨hr.1, by omega⟩
  have c2 := fun W (q : Laid W) => Of_ok (sec + 1) W q ⟨by omega, by omega⟩
  rw [e1] at c1
  rw [e2] at c2
  have C1 := hide c1
  have C2 := hide c2
  have CN := hide (fun W (q : Laid W) => after_any N v W q)
  have m1 := fun W => MJD_any (sec + 1) W (by omega) (by omega)
  have m0' := fun W => MJD_any sec W (by omega) (by omega)
  have k1' := fun W => Weekday_any (sec + 1) W (by omega) (by omega)
  have k0' := fun W => Weekday_any sec W (by omega) (by omega)
  rw [f1] at m1
  rw [f0] at m0'
  rw [r1] at k1'
  rw [r0] at k0'
  have M1 := hide m1
  have M0 := hide m0'
  have K1 := hide k1'
  have K0 := hide k0'
  obtain ⟨hr1, hr2⟩ := hr
  have j1 : 0 ≤ k1 := by omega
  have t3 : k0 % 7 = k1 := by rw [← t1]; simp
  have t4 : k0.tmod 7 = k1 := by rw [← t2]; simp
  clear c1 c2 e1 e2 v N l f0 f1 r0 r1 m1 m0' k1' k0'
  go_enter Tryd.func7, Tryd.ntmps7
  go_wp2_with fail
  with_reducible refine C1.out.mono ?_
  rintro e w1 ⟨rfl, h1⟩
  have a1 := h1.alloc h1.size (.cells #[.int .i64 y, .int .i64 (M : Int), .int .i64 d, .int .i64 H, .int .i64 I, .int .i64 S, .int .i64 0] 23)
  have A1 := hide a1
  have P1 := hide (Box7.new w1 y (M : Int) d H I S 0)
  have G2 := hide (C2.out _ (HL.out _ a1).laid)
  clear a1 h1 C1 C2
  go_wp2_with fail
  with_reducible refine G2.out.mono ?_
  rintro e w2 ⟨rfl, h2⟩
  have b2' := A1.out.trans (h2.mono A1.out.size)
  have a2 := b2'.alloc b2'.size (.cells #[.int .i64 y', .int .i64 (M' : Int), .int .i64 d', .int .i64 H', .int .i64 I', .int .i64 S', .int .i64 0] 23)
  have P2 := step_alloc (P1.out.step h2) (.cells #[.int .i64 y', .int .i64 (M' : Int), .int .i64 d', .int .i64 H', .int .i64 I', .int .i64 S', .int .i64 0] 23)
  have Q2 := Box7.new w2 y' (M' : Int) d' H' I' S' 0
  clear h2 b2' A1 P1 G2
  go_wp2
  generalize w2.alloc (.cells #[.int .i64 y', .int .i64 (M' : Int), .int .i64 d', .int .i64 H', .int .i64 I', .int .i64 S', .int .i64 0] 23) = W3 at *
  generalize w2.heap.size = q at *
  generalize w1.heap.size = p at *
  have A2 := hide a2
  have HP := hide P2
  have HQ := hide Q2
  have D3 := hide (based (Nat.le_refl _) fun W (g : Below W3.heap.size W3 W) => CN.out W (HL.out W (A2.out.trans (g.mono A2.out.size))).laid)
  have D4 := hide (based (Nat.le_refl _) fun W (g : Below W3.heap.size W3 W) => CA.out W (HL.out W (A2.out.trans (g.mono A2.out.size))))
  have K := hide (fun (W : World) (g : Below W3.heap.size W3 W) => (And.intro (HP.out.step g).c0 (And.intro (HP.out.step g).c1 (And.intro (HP.out.step g).c2 (And.intro (HP.out.step g).c3 (And.intro (HP.out.step g).c4 (And.intro (HP.out.step g).c5 (And.intro (HP.out.step g).c6 (And.intro (HQ.out.step g).c0 (And.intro (HQ.out.step g).c1 (And.intro (HQ.out.step g).c2 (And.intro (HQ.out.step g).c3 (And.intro (HQ.out.step g).c4 (And.intro (HQ.out.step g).c5 (And.intro (HQ.out.step g).c6 g)))))))))))))))
  have hb3 := Below.refl W3.heap.size W3
  clear a2 P2 Q2 CN
  obtain ⟨x0, x1, x2, x3, x4, x5, x6, z0, z1, z2, z3, z4, z5, z6, _⟩ := K.out _ hb3
  first | go_region_held3 (fun W => W.cell? ⟨p, 0, none⟩ = some (.int .i64 y) ∧ W.cell? ⟨p, 1, none⟩ = some (.int .i64 (M : Int)) ∧ W.cell? ⟨p, 2, none⟩ = some (.int .i64 d) ∧ W.cell? ⟨p, 3, none⟩ = some (.int .i64 H) ∧ W.cell? ⟨p, 4, none⟩ = some (.int .i64 I) ∧ W.cell? ⟨p, 5, none⟩ = some (.int .i64 S) ∧ W.cell? ⟨p, 6, none⟩ = some (.int .i64 0) ∧ W.cell? ⟨q, 0, none⟩ = some (.int .i64 y') ∧ W.cell? ⟨q, 1, none⟩ = some (.int .i64 (M' : Int)) ∧ W.cell? ⟨q, 2, none⟩ = some (.int .i64 d') ∧ W.cell? ⟨q, 3, none⟩ = some (.int .i64 H') ∧ W.cell? ⟨q, 4, none⟩ = some (.int .i64 I') ∧ W.cell? ⟨q, 5, none⟩ = some (.int .i64 S') ∧ W.cell? ⟨q, 6, none⟩ = some (.int .i64 0) ∧ Below W3.heap.size W3 W) (first | exact K.out _ (by assumption) | exact K.out _ (Below.drew (by assumption))) (first | (go_at_call 24; with_reducible refine (D3.out _ (by first | assumption | exact (And.right (And.right (And.right (And.right (And.right (And.right (And.right (And.right (And.right (And.right (And.right (And.right (And.right (And.right (by assumption))))))))))))))))).mono ?_; rintro e w' ⟨rfl, hb⟩)) | fail
  have B4 := hide (by assumption : Below W3.heap.size W3 _)
  clear x0 x1 x2 x3 x4 x5 x6 z0 z1 z2 z3 z4 z5 z6
  obtain ⟨x0, x1, x2, x3, x4, x5, x6, z0, z1, z2, z3, z4, z5, z6, _⟩ := K.out _ B4.out
  go_wp2_with fail
  with_reducible refine (M1.out _).mono ?_
  rintro e v0 ⟨rfl, n0, rfl⟩
  go_wp2_with fail
  with_reducible refine (M0.out _).mono ?_
  rintro e v1 ⟨rfl, n1, rfl⟩
  go_wp2_with fail
  with_reducible refine (K1.out _).mono ?_
  rintro e v2 ⟨rfl, n2, rfl⟩
  go_wp2_with fail
  with_reducible refine (K0.out _).mono ?_
  rintro e v3 ⟨rfl, n3, rfl⟩
  go_wp2_with fail
  with_reducible refine (K0.out _).mono ?_
  rintro e v4 ⟨rfl, n4, rfl⟩
  have B5 := hide (below_drewN B4.out (n0 + n1 + n2 + n3 + n4))
  clear x0 x1 x2 x3 x4 x5 x6 z0 z1 z2 z3 z4 z5 z6
  go_wp2_with fail
  with_reducible refine (D4.out _ B5.out).mono ?_
  rintro e w9 ⟨rfl, h9⟩
  go_wp2
  go_ret
  exact ⟨rfl, A2.out.trans (h9.mono A2.out.size)⟩
set_option maxRecDepth 100000 in
set_option maxHeartbeats 6400000 in
theorem Next_new (sec : Int) (w : World) (l : Laid5 w) (hr : -8000000000 ≤ sec ∧ sec < 8000000000) (y d H I S y' d' H' I' S' : Int) (M M' : Nat) (m0 k0 k1 : Int) (e1 : ofV sec = .agg #[.int .i64 y, .int .i64 (M : Int), .int .i64 d, .int .i64 H, .int .i64 I, .int .i64 S, .int .i64 0])
    (e2 : ofV (sec + 1) = .agg #[.int .i64 y', .int .i64 (M' : Int), .int .i64 d', .int .i64 H', .int .i64 I', .int .i64 S', .int .i64 0]) (v : Valid y (M : Int) d H I S 0) (N : Next y d H I S M y' d' H' I' S' M') (hd : (d' != d) = true)
    (f0 : sec / 86400 + 15020 = m0) (f1 : (sec + 1) / 86400 + 15020 = m0 + 1) (r0 : wkV sec = k0) (r1 : wkV (sec + 1) = k1) (b1 : -200000 ≤ m0) (b2 : m0 ≤ 200000) (s1 : 0 ≤ k0) (s2 : k0 ≤ 6) (t1 : (k0 + 1) % 7 = k1) (t2 : (k0 + 1).tmod 7 = k1) (hs : m0 + 1 - m0 = 1) :
    Calls Tryd.prog 7 #[.int .i64 sec] w fun e w' => e = .returned (.bool true) ∧ Below w.heap.size w w' := by
  have HL := hide (fun W (q : Below w.heap.size w W) => l.step q)
  have CA := hide awake_any
  have c1 := Of_ok sec w l.laid ⟨hr.1, by omega⟩
  have c2 := fun W (q : Laid W) => Of_ok (sec + 1) W q ⟨by omega, by omega⟩
  rw [e1] at c1
  rw [e2] at c2
  have C1 := hide c1
  have C2 := hide c2
  have CN := hide (fun W (q : Laid W) => after_any N v W q)
  have m1 := fun W => MJD_any (sec + 1) W (by omega) (by omega)
  have m0' := fun W => MJD_any sec W (by omega) (by omega)
  have k1' := fun W => Weekday_any (sec + 1) W (by omega) (by omega)
  have k0' := fun W => Weekday_any sec W (by omega) (by omega)
  rw [f1] at m1
  rw [f0] at m0'
  rw [r1] at k1'
  rw [r0] at k0'
  have M1 := hide m1
  have M0 := hide m0'
  have K1 := hide k1'
  have K0 := hide k0'
  obtain ⟨hr1, hr2⟩ := hr
  have j1 : 0 ≤ k1 := by omega
  clear c1 c2 e1 e2 v N l f0 f1 r0 r1 m1 m0' k1' k0'
  go_enter Tryd.func7, Tryd.ntmps7
  go_wp2_with fail
  with_reducible refine C1.out.mono ?_
  rintro e w1 ⟨rfl, h1⟩
  have a1 := h1.alloc h1.size (.cells #[.int .i64 y, .int .i64 (M : Int), .int .i64 d, .int .i64 H, .int .i64 I, .int .i64 S, .int .i64 0] 23)
  have A1 := hide a1
  have P1 := hide (Box7.new w1 y (M : Int) d H I S 0)
  have G2 := hide (C2.out _ (HL.out _ a1).laid)
  clear a1 h1 C1 C2
  go_wp2_with fail
  with_reducible refine G2.out.mono ?_
  rintro e w2 ⟨rfl, h2⟩
  have b2' := A1.out.trans (h2.mono A1.out.size)
  have a2 := b2'.alloc b2'.size (.cells #[.int .i64 y', .int .i64 (M' : Int), .int .i64 d', .int .i64 H', .int .i64 I', .int .i64 S', .int .i64 0] 23)
  have P2 := step_alloc (P1.out.step h2) (.cells #[.int .i64 y', .int .i64 (M' : Int), .int .i64 d', .int .i64 H', .int .i64 I', .int .i64 S', .int .i64 0] 23)
  have Q2 := Box7.new w2 y' (M' : Int) d' H' I' S' 0
  clear h2 b2' A1 P1 G2
  go_wp2
  generalize w2.alloc (.cells #[.int .i64 y', .int .i64 (M' : Int), .int .i64 d', .int .i64 H', .int .i64 I', .int .i64 S', .int .i64 0] 23) = W3 at *
  generalize w2.heap.size = q at *
  generalize w1.heap.size = p at *
  have A2 := hide a2
  have HP := hide P2
  have HQ := hide Q2
  have D3 := hide (based (Nat.le_refl _) fun W (g : Below W3.heap.size W3 W) => CN.out W (HL.out W (A2.out.trans (g.mono A2.out.size))).laid)
  have D4 := hide (based (Nat.le_refl _) fun W (g : Below W3.heap.size W3 W) => CA.out W (HL.out W (A2.out.trans (g.mono A2.out.size))))
  have K := hide (fun (W : World) (g : Below W3.heap.size W3 W) => (And.intro (HP.out.step g).c0 (And.intro (HP.out.step g).c1 (And.intro (HP.out.step g).c2 (And.intro (HP.out.step g).c3 (And.intro (HP.out.step g).c4 (And.intro (HP.out.step g).c5 (And.intro (HP.out.step g).c6 (And.intro (HQ.out.step g).c0 (And.intro (HQ.out.step g).c1 (And.intro (HQ.out.step g).c2 (And.intro (HQ.out.step g).c3 (And.intro (HQ.out.step g).c4 (And.intro (HQ.out.step g).c5 (And.intro (HQ.out.step g).c6 g)))))))))))))))
  have hb3 := Below.refl W3.heap.size W3
  clear a2 P2 Q2 CN
  obtain ⟨x0, x1, x2, x3, x4, x5, x6, z0, z1, z2, z3, z4, z5, z6, _⟩ := K.out _ hb3
  first | go_region_held3 (fun W => W.cell? ⟨p, 0, none⟩ = some (.int .i64 y) ∧ W.cell? ⟨p, 1, none⟩ = some (.int .i64 (M : Int)) ∧ W.cell? ⟨p, 2, none⟩ = some (.int .i64 d) ∧ W.cell? ⟨p, 3, none⟩ = some (.int .i64 H) ∧ W.cell? ⟨p, 4, none⟩ = some (.int .i64 I) ∧ W.cell? ⟨p, 5, none⟩ = some (.int .i64 S) ∧ W.cell? ⟨p, 6, none⟩ = some (.int .i64 0) ∧ W.cell? ⟨q, 0, none⟩ = some (.int .i64 y') ∧ W.cell? ⟨q, 1, none⟩ = some (.int .i64 (M' : Int)) ∧ W.cell? ⟨q, 2, none⟩ = some (.int .i64 d') ∧ W.cell? ⟨q, 3, none⟩ = some (.int .i64 H') ∧ W.cell? ⟨q, 4, none⟩ = some (.int .i64 I') ∧ W.cell? ⟨q, 5, none⟩ = some (.int .i64 S') ∧ W.cell? ⟨q, 6, none⟩ = some (.int .i64 0) ∧ Below W3.heap.size W3 W) (first | exact K.out _ (by assumption) | exact K.out _ (Below.drew (by assumption))) (first | (go_at_call 24; with_reducible refine (D3.out _ (by first | assumption | exact (And.right (And.right (And.right (And.right (And.right (And.right (And.right (And.right (And.right (And.right (And.right (And.right (And.right (And.right (by assumption))))))))))))))))).mono ?_; rintro e w' ⟨rfl, hb⟩)) | fail
  have B4 := hide (by assumption : Below W3.heap.size W3 _)
  clear x0 x1 x2 x3 x4 x5 x6 z0 z1 z2 z3 z4 z5 z6
  obtain ⟨x0, x1, x2, x3, x4, x5, x6, z0, z1, z2, z3, z4, z5, z6, _⟩ := K.out _ B4.out
  go_wp2_with fail
  with_reducible refine (M1.out _).mono ?_
  rintro e v0 ⟨rfl, n0, rfl⟩
  go_wp2_with fail
  with_reducible refine (M0.out _).mono ?_
  rintro e v1 ⟨rfl, n1, rfl⟩
  go_wp2_with fail
  with_reducible refine (K1.out _).mono ?_
  rintro e v2 ⟨rfl, n2, rfl⟩
  go_wp2_with fail
  with_reducible refine (K0.out _).mono ?_
  rintro e v3 ⟨rfl, n3, rfl⟩
  go_wp2_with fail
  with_reducible refine (K0.out _).mono ?_
  rintro e v4 ⟨rfl, n4, rfl⟩
  have B5 := hide (below_drewN B4.out (n0 + n1 + n2 + n3 + n4))
  clear x0 x1 x2 x3 x4 x5 x6 z0 z1 z2 z3 z4 z5 z6
  go_wp2_with fail
  with_reducible refine (D4.out _ B5.out).mono ?_
  rintro e w9 ⟨rfl, h9⟩
  go_wp2
  go_ret
  exact ⟨rfl, A2.out.trans (h9.mono A2.out.size)⟩
set_option maxHeartbeats 1600000 in
theorem Next_out (sec : Int) (w : World) (l : Laid5 w) (hr : sec < -8000000000 ∨ 8000000000 ≤ sec) : Calls Tryd.prog 7 #[.int .i64 sec] w fun e w' => e = .returned (.bool true) ∧ Below w.heap.size w w' := by
  have CA := hide (awake_any w l)
  clear l
  rcases hr with hr | hr
  all_goals
    go_enter Tryd.func7, Tryd.ntmps7
    go_wp2_with fail
    with_reducible refine CA.out.mono ?_
    rintro e w9 ⟨rfl, h9⟩
    go_wp2
    go_ret
    exact ⟨rfl, h9⟩
theorem CivilNext_walk (sec : Int) (w : World) (l : Laid5 w) : Calls Tryd.prog 7 #[.int .i64 sec] w fun e w' => e = .returned (.bool true) ∧ Below w.heap.size w w' := by
  by_cases h1 : sec < -8000000000
  · exact Next_out sec w l (.inl h1)
  · by_cases h2 : 8000000000 ≤ sec
    · exact Next_out sec w l (.inr h2)
    · have hr : -8000000000 ≤ sec ∧ sec < 8000000000 := ⟨by omega, by omega⟩
      obtain ⟨y, d, H, I, S, y', d', H', I', S', M, M', st, e1, e2, v, N, es, hst⟩ := next_of hr
      have n1 : -92593 ≤ sec / 86400 := by omega
      have n2 : sec / 86400 ≤ 92592 := by omega
      have hk : 0 ≤ wkV sec ∧ wkV sec ≤ 6 := by unfold wkV; omega
      have hk1 : wkV (sec + 1) = (wkV sec + st) % 7 := by unfold wkV; rw [es]; omega
      have hk2 : (wkV sec + st).tmod 7 = (wkV sec + st) % 7 := by
        rw [Int.tmod_eq_emod, if_pos (.inl (by rcases hst with ⟨_, rfl⟩ | ⟨_, rfl⟩ <;> omega))]; simp
      rcases hst with ⟨hd, rfl⟩ | ⟨hd, rfl⟩
      · exact Next_same sec w l hr y d H I S y' d' H' I' S' M M' _ _ _ e1 e2 v N (by simp [hd]) rfl (by rw [es]; omega) rfl rfl (by omega) (by omega) hk.1 hk.2 hk1.symm (hk2.trans hk1.symm) (by omega)
      · exact Next_new sec w l hr y d H I S y' d' H' I' S' M M' _ _ _ e1 e2 v N (by simp [hd]) rfl (by rw [es]; omega) rfl rfl (by omega) (by omega) hk.1 hk.2 hk1.symm (hk2.trans hk1.symm) (by omega)
end Go.Proofs.YtbhpceghgjognaaDoor.Civ
