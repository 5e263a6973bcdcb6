/- The walk of the law CivilTexts. -/
import Derived.Test.YtbhpceghgjognaaDoorCivW
import Derived.ChangeMaps5
namespace Go.Proofs.YtbhpceghgjognaaDoor.Civ
open Go.RowKit Aid Go.ChangeShapes Go.WideShapes
theorem open_str {H : Type} {enc : TypeId × Value → H} {w : World} {base : Nat} {spare : Nat → Bool} {held : Bool} {r : Reach} {b0 : Nat} {v : Value} {d : DataW H} {p : List MemPlace}
    (hv : Value.okWide Tryd.prog w r b0 9 v) (h : DataW.Trod enc Tryd.prog w base spare held 9 v d p) : ∃ s : ByteArray, v = .string s := by
  obtain ⟨s, e, _⟩ := Go.ChangeMaps.open_string Tryd.underlying9 hv h
  exact ⟨s, e⟩
theorem parse_both (s : ByteArray) : ∃ x0 x1 x2 x3 x4 x5 x6 k : Int,
    (∀ W, Laid W → Calls Tryd.prog 14 #[.string s] W fun e w' => e = .returned (.tuple #[.agg #[.int .i64 x0, .int .i64 x1, .int .i64 x2, .int .i64 x3, .int .i64 x4, .int .i64 x5, .int .i64 x6], .int .i64 k]) ∧ Below W.heap.size W w') ∧
    (∀ W, Calls Tryd.prog 15 #[.string s] W fun e w' => e = .returned (.tuple #[.agg #[.int .i64 x0, .int .i64 x1, .int .i64 x2, .int .i64 x3, .int .i64 x4, .int .i64 x5, .int .i64 x6], .int .i64 k]) ∧ Below W.heap.size W w') := by
  by_cases hs : s.size = 30
  · by_cases hf : Formed s
    · by_cases hk : chkP s = 0
      · refine ⟨_, _, _, _, _, _, _, _, fun W l => ?_, fun W => RParse_30 s W hs 0 (fun h => absurd hf h) (fun _ => hk.symm) (parV s) (fun _ => rfl) (fun h => absurd rfl h)⟩
        exact Parse_good s W l hf 0 hk
      · refine ⟨_, _, _, _, _, _, _, _, fun W l => ?_, fun W => RParse_30 s W hs (chkP s) (fun h => absurd hf h) (fun _ => rfl) zeroV (fun h => absurd h hk) (fun _ => rfl)⟩
        have := Parse_good s W l hf (chkP s) rfl
        rwa [if_neg hk] at this
    · exact ⟨_, _, _, _, _, _, _, _, fun W _ => Parse_bad s W hf, fun W => RParse_30 s W hs 19 (fun _ => rfl) (fun h => absurd h hf) zeroV (fun h => by cases h) (fun _ => rfl)⟩
  · exact ⟨_, _, _, _, _, _, _, _, fun W _ => Parse_bad s W (fun h => hs h.1), fun W => RParse_long s W hs⟩
set_option maxRecDepth 100000 in
set_option maxHeartbeats 6400000 in
theorem CivilTexts_walk (y m d h mi s n : Int) (t : ByteArray) (w : World) (l : Laid5 w) :
    Calls Tryd.prog 4 #[.agg #[.int .i64 y, .int .i64 m, .int .i64 d, .int .i64 h, .int .i64 mi, .int .i64 s, .int .i64 n], .string t] w fun e w' => e = .returned (.bool true) ∧ Below w.heap.size w w' := by
  obtain ⟨x0, x1, x2, x3, x4, x5, x6, k, c1, c2⟩ := parse_both t
  have b0 : Below w.heap.size w (w.alloc (.cells #[.int .i64 y, .int .i64 m, .int .i64 d, .int .i64 h, .int .i64 mi, .int .i64 s, .int .i64 n] 23)) := (Below.refl _ _).alloc (Nat.le_refl _) _
  have HL := hide (fun W (q : Below w.heap.size w W) => l.step q)
  have C1 := hide (c1 _ (l.step b0).laid)
  have C2 := hide c2
  have C3 := hide fun W (q : Laid5 W) => Text_any y m d h mi s n W q
  have C4 := hide fun W => RText_any y m d h mi s n W
  have C5 := hide awake_any
  have HB0 := hide b0
  have T0 := hide (Box7.new w y m d h mi s n)
  clear c1 c2 l b0
  generalize textV y m d h mi s n = tx at *
  go_enter Tryd.func4, Tryd.ntmps4
  go_wp2_with fail
  with_reducible refine C1.out.mono ?_
  rintro e w1 ⟨rfl, h1⟩
  have b1 := HB0.out.trans (h1.mono HB0.out.size)
  have a1 := b1.alloc b1.size (.cells #[.int .i64 x0, .int .i64 x1, .int .i64 x2, .int .i64 x3, .int .i64 x4, .int .i64 x5, .int .i64 x6] 23)
  have A1 := hide a1
  have T1 := hide ((T0.out.step h1).step ((Below.refl _ _).alloc (Nat.le_refl _) (.cells #[.int .i64 x0, .int .i64 x1, .int .i64 x2, .int .i64 x3, .int .i64 x4, .int .i64 x5, .int .i64 x6] 23)))
  have P1 := hide (Box7.new w1 x0 x1 x2 x3 x4 x5 x6)
  clear a1 b1 h1 C1 HB0 T0
  go_wp2_with fail
  with_reducible refine (C2.out _).mono ?_
  rintro e w2 ⟨rfl, h2⟩
  have b2 := A1.out.trans (h2.mono A1.out.size)
  have a2 := b2.alloc b2.size (.cells #[.int .i64 x0, .int .i64 x1, .int .i64 x2, .int .i64 x3, .int .i64 x4, .int .i64 x5, .int .i64 x6] 23)
  have T2 := (T1.out.step h2).step ((Below.refl _ _).alloc (Nat.le_refl _) (.cells #[.int .i64 x0, .int .i64 x1, .int .i64 x2, .int .i64 x3, .int .i64 x4, .int .i64 x5, .int .i64 x6] 23))
  have P2 := (P1.out.step h2).step ((Below.refl _ _).alloc (Nat.le_refl _) (.cells #[.int .i64 x0, .int .i64 x1, .int .i64 x2, .int .i64 x3, .int .i64 x4, .int .i64 x5, .int .i64 x6] 23))
  have Q2 := Box7.new w2 x0 x1 x2 x3 x4 x5 x6
  clear h2 b2 C2 A1 T1 P1
  go_wp2
  generalize w2.alloc (.cells #[.int .i64 x0, .int .i64 x1, .int .i64 x2, .int .i64 x3, .int .i64 x4, .int .i64 x5, .int .i64 x6] 23) = W3 at *
  generalize w2.heap.size = q at *
  generalize w1.heap.size = p at *
  have A2 := hide a2
  have HT := hide T2
  have HP := hide P2
  have HQ := hide Q2
  have D3 := hide (based (Nat.le_refl _) fun W (g : Below W3.heap.size W3 W) => C3.out W (HL.out W (A2.out.trans (g.mono A2.out.size))))
  have D4 := hide (based (Nat.le_refl _) fun W (_ : Below W3.heap.size W3 W) => C4.out W)
  have D5 := hide (based (Nat.le_refl _) fun W (g : Below W3.heap.size W3 W) => C5.out W (HL.out W (A2.out.trans (g.mono A2.out.size))))
  have K := hide (fun (W : World) (g : Below W3.heap.size W3 W) => And.intro (HT.out.step g).c0 (And.intro (HT.out.step g).c1 (And.intro (HT.out.step g).c2 (And.intro (HT.out.step g).c3 (And.intro (HT.out.step g).c4 (And.intro (HT.out.step g).c5 (And.intro (HT.out.step g).c6 (And.intro (HP.out.step g).c0 (And.intro (HP.out.step g).c1 (And.intro (HP.out.step g).c2 (And.intro (HP.out.step g).c3 (And.intro (HP.out.step g).c4 (And.intro (HP.out.step g).c5 (And.intro (HP.out.step g).c6 (And.intro (HQ.out.step g).c0 (And.intro (HQ.out.step g).c1 (And.intro (HQ.out.step g).c2 (And.intro (HQ.out.step g).c3 (And.intro (HQ.out.step g).c4 (And.intro (HQ.out.step g).c5 (And.intro (HQ.out.step g).c6 g)))))))))))))))))))))
  have hb3 := Below.refl W3.heap.size W3
  clear a2 T2 P2 Q2 C3 C4 C5
  obtain ⟨t0, t1, t2, t3, t4, t5, t6, p0, p1, p2, p3, p4, p5, p6, q0, q1, q2, q3, q4, q5, q6, _⟩ := K.out _ hb3
  go_region_held3 (fun W => W.cell? ⟨w.heap.size, 0, none⟩ = some (.int .i64 y) ∧ W.cell? ⟨w.heap.size, 1, none⟩ = some (.int .i64 m) ∧ W.cell? ⟨w.heap.size, 2, none⟩ = some (.int .i64 d) ∧ W.cell? ⟨w.heap.size, 3, none⟩ = some (.int .i64 h) ∧ W.cell? ⟨w.heap.size, 4, none⟩ = some (.int .i64 mi) ∧ W.cell? ⟨w.heap.size, 5, none⟩ = some (.int .i64 s) ∧ W.cell? ⟨w.heap.size, 6, none⟩ = some (.int .i64 n) ∧ W.cell? ⟨p, 0, none⟩ = some (.int .i64 x0) ∧ W.cell? ⟨p, 1, none⟩ = some (.int .i64 x1) ∧ W.cell? ⟨p, 2, none⟩ = some (.int .i64 x2) ∧ W.cell? ⟨p, 3, none⟩ = some (.int .i64 x3) ∧ W.cell? ⟨p, 4, none⟩ = some (.int .i64 x4) ∧ W.cell? ⟨p, 5, none⟩ = some (.int .i64 x5) ∧ W.cell? ⟨p, 6, none⟩ = some (.int .i64 x6) ∧ W.cell? ⟨q, 0, none⟩ = some (.int .i64 x0) ∧ W.cell? ⟨q, 1, none⟩ = some (.int .i64 x1) ∧ W.cell? ⟨q, 2, none⟩ = some (.int .i64 x2) ∧ W.cell? ⟨q, 3, none⟩ = some (.int .i64 x3) ∧ W.cell? ⟨q, 4, none⟩ = some (.int .i64 x4) ∧ W.cell? ⟨q, 5, none⟩ = some (.int .i64 x5) ∧ W.cell? ⟨q, 6, none⟩ = some (.int .i64 x6) ∧ Below W3.heap.size W3 W) (first | exact K.out _ (by assumption) | exact K.out _ (Below.drew (by assumption))) (first | (go_at_call 16; with_reducible refine (D3.out _ (by first | assumption | exact And.right (And.right (And.right (And.right (And.right (And.right (And.right (And.right (And.right (And.right (And.right (And.right (And.right (And.right (And.right (And.right (And.right (And.right (And.right (And.right (And.right (by assumption))))))))))))))))))))))).mono ?_; rintro e w' ⟨rfl, hb⟩) | (go_at_call 17; with_reducible refine (D4.out _ (by first | assumption | exact And.right (And.right (And.right (And.right (And.right (And.right (And.right (And.right (And.right (And.right (And.right (And.right (And.right (And.right (And.right (And.right (And.right (And.right (And.right (And.right (And.right (by assumption))))))))))))))))))))))).mono ?_; rintro e w' ⟨rfl, hb⟩) | (go_at_call 13; with_reducible refine (D5.out _ (by first | assumption | exact And.right (And.right (And.right (And.right (And.right (And.right (And.right (And.right (And.right (And.right (And.right (And.right (And.right (And.right (And.right (And.right (And.right (And.right (And.right (And.right (And.right (by assumption))))))))))))))))))))))).mono ?_; rintro e w' ⟨rfl, hb⟩))
  go_wp2
  go_ret
  exact ⟨rfl, A2.out.trans (Below.mono (by assumption) A2.out.size)⟩
end Go.Proofs.YtbhpceghgjognaaDoor.Civ
