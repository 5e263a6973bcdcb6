/- The contract of layer 7: stepped. -/
import Derived.Test.YtnnfaejejnfckaaDoorSmrS
namespace Go.Proofs.YtnnfaejejnfckaaDoor.Smr
open Go.RowKit Aid Civ Leap
theorem gE_bd {B X : Int} {A O : Nat → Int} {n : Nat} (T : Tab B X A O n) {i : Nat} (h : i < n) : -8000001000000000000 ≤ (A i + O i) * 1000000000 ∧ (A i + O i) * 1000000000 ≤ 8000001000000000000 := by
  have := T.a i h
  have := T.o i h
  omega
theorem leap3 {w : World} {x0 x1 x2 : Value} {T : TypeId} {W V : World} (h : Below (w.heap.size + 1) (w.alloc (.cells #[x0, x1, x2] T)) W) (g : Below W.heap.size W V) : Below (w.heap.size + 1) (w.alloc (.cells #[x0, x1, x2] T)) V :=
  h.trans (g.mono (by have := h.size; simp at this; omega))
theorem lo_bd {B X : Int} {A O : Nat → Int} {n : Nat} (T : Tab B X A O n) {k : Nat} (h : k ≤ n) : -8000000000000000000 ≤ loS A O k ∧ loS A O k ≤ 8000001000000000000 := by
  unfold loS mxI gE
  split
  · omega
  · have := gE_bd T (i := k - 1) (by omega)
    split <;> omega
theorem hi_bd {B X : Int} {A O : Nat → Int} {n : Nat} (T : Tab B X A O n) {k : Nat} : -8000001000000000001 ≤ hiS A O n k ∧ hiS A O n k ≤ 8000000000000000000 := by
  unfold hiS mnI gE
  split
  · rename_i h
    have := gE_bd T h
    split <;> omega
  · omega
set_option maxRecDepth 100000 in
set_option maxHeartbeats 6400000 in
theorem stepped_any (B X : Int) (a : Option Addr) (n cap : Nat) (A O : Nat → Int) (u : Int) (w : World) (hr : Ents w a n A O) (T : Tab B X A O n) (hu : -8000000000000000000 ≤ u ∧ u ≤ 8000000000000000000) :
    Calls Tryd.prog 28 #[.agg #[.int .i64 B, .int .i64 X, .slice a n cap], .int .i64 u] w fun e w' => e = .returned (.tuple #[.int .i64 (steT B A O n u).1, .bool (steT B A O n u).2]) ∧ Below w.heap.size w w' := by
  have hn := hr.1
  have HT := hide T
  have HR := hide hr
  have n64 := T.n64
  obtain ⟨u1, u2⟩ := hu
  have HE := hide (fun (k : Nat) (h : (stk (okS B A O n u) (taS B O u) k).2 = false) (hk : k < n + 1) (hp : okS B A O n u k = true) => show steT B A O n u = (taS B O u k, true) by unfold steT; rw [stk_hit h hp hk]; rfl)
  have HN := hide (fun (h : (stk (okS B A O n u) (taS B O u) (n + 1)).2 = false) => show steT B A O n u = stk (okG B A O n u) (nxS B A O u) (n + 1) by unfold steT; rw [if_neg (by rw [h]; simp)])
  generalize steT B A O n u = R at *
  clear T hr
  go_enter Tryd.func28, Tryd.ntmps28
  go_wp2
  go_loopw [6, 7, 18] (fun v f i wr => ∃ (k : Nat) (lv : Int) (fd : Bool), k ≤ n + 1 ∧ i = .int .i64 k ∧ v = .int .i64 lv ∧ f = .bool fd ∧ stk (okG B A O n u) (nxS B A O u) k = (lv, fd) ∧ (stk (okS B A O n u) (taS B O u) k).2 = false ∧ Below (w.heap.size + 1) (w.alloc (.cells #[.int .i64 B, .int .i64 X, .slice a n cap] 24)) wr) (fun _ _ i _ => n + 1 - (intOf i).toNat)
  case atStart => exact ⟨0, 0, false, by omega, rfl, rfl, rfl, rfl, rfl, Below.refl _ _⟩
  case round =>
    obtain ⟨k, lv, fd, hk, rfl, rfl, rfl, hg, hs, hb⟩ := hrel
    have HG := hide hg
    have HS := hide hs
    have HB := hide hb
    obtain ⟨c0, c1, c2, hz⟩ := cells3 hb
    have hbw := boxB hb
    have HBW := hide hbw
    clear hg hs hb
    by_cases hlt' : k < n + 1
    · have HK := hide (fun (V : World) (g : Below wr.heap.size wr V) => And.intro ((g.cell (p := ⟨w.heap.size, 0, none⟩) (by show w.heap.size < _; omega)).trans c0) ((g.cell (p := ⟨w.heap.size, 2, none⟩) (by show w.heap.size < _; omega)).trans c2))
      clear hbw
      go_upto_if 24 with fail
      go_cut [9, 10] (fun o l wx => o = .int .i64 (offP B O k) ∧ l = .int .i64 (loS A O k) ∧ Below wr.heap.size wr wx)
      case first =>
        by_cases k0 : k = 0
        · subst k0
          go_wp2_with fail
          go_meet
          exact ⟨by simp [offP], by simp [loS], Below.refl _ _⟩
        · obtain ⟨b, off, rfl, hlt, hc⟩ := HR.out.at_ (by omega)
          have hp0 : wr.cell? ⟨b, off + (k - 1) * 2, none⟩ = some (.int .i64 (A (k - 1))) := (HBW.out.cell (p := ⟨b, off + (k - 1) * 2, none⟩) hlt).trans (hc (k - 1) (by omega)).1
          have hp1 : wr.cell? ⟨b, off + (k - 1) * 2 + 1, none⟩ = some (.int .i64 (O (k - 1))) := (HBW.out.cell (p := ⟨b, off + (k - 1) * 2 + 1, none⟩) hlt).trans (hc (k - 1) (by omega)).2
          have C0 := hide (change_any (A (k - 1)) (O (k - 1)) wr (HT.out.a (k - 1) (by omega)) (HT.out.o (k - 1) (by omega)))
          have HL : Hid (loS A O k = if -8000000000000000000 < (A (k - 1) + O (k - 1)) * 1000000000 then (A (k - 1) + O (k - 1)) * 1000000000 else -8000000000000000000) := hide (by unfold loS mxI gE; rw [if_neg k0])
          have HO : Hid (offP B O k = O (k - 1)) := hide (by unfold offP; rw [if_neg k0])
          generalize (A (k - 1) + O (k - 1)) * 1000000000 = x0 at *
          have hk1 : 0 < k := by omega
          have hk2 : k - 1 < n := by omega
          clear hc hlt k0
          by_cases q : -8000000000000000000 < x0
          · rw [if_pos q] at HL
            go_wp2_with fail
            with_reducible refine C0.out.mono ?_
            rintro e w1 ⟨rfl, h1⟩
            have H1 := hide h1
            clear h1
            go_wp2_with fail
            go_meet
            exact ⟨by rw [HO.out], by rw [HL.out], H1.out⟩
          · rw [if_neg q] at HL
            go_wp2_with fail
            with_reducible refine C0.out.mono ?_
            rintro e w1 ⟨rfl, h1⟩
            have H1 := hide h1
            clear h1
            go_wp2_with fail
            go_meet
            exact ⟨by rw [HO.out], by rw [HL.out], H1.out⟩
      case rest =>
        obtain ⟨rfl, rfl, hb1⟩ := hcut
        have HB1 := hide hb1
        obtain ⟨d0, d2⟩ := HK.out _ hb1
        have hz1 : w.heap.size < wc.heap.size := by have := hb1.size; omega
        clear c0 c1 c2 hb1
        go_upto_if 45 with fail
        go_cut [11] (fun h wx => h = .int .i64 (hiS A O n k) ∧ Below wr.heap.size wr wx)
        case first =>
          by_cases k0 : k < n
          · obtain ⟨b, off, rfl, hlt, hc⟩ := HR.out.at_ (by omega)
            have hbb := HBW.out.trans (HB1.out.mono HBW.out.size)
            have hp0 : wc.cell? ⟨b, off + k * 2, none⟩ = some (.int .i64 (A k)) := (hbb.cell (p := ⟨b, off + k * 2, none⟩) hlt).trans (hc k k0).1
            have hp1 : wc.cell? ⟨b, off + k * 2 + 1, none⟩ = some (.int .i64 (O k)) := (hbb.cell (p := ⟨b, off + k * 2 + 1, none⟩) hlt).trans (hc k k0).2
            have C0 := hide (change_any (A k) (O k) wc (HT.out.a k k0) (HT.out.o k k0))
            have g1 := gE_bd HT.out k0
            have HL : Hid (hiS A O n k = if (A k + O k) * 1000000000 - 1 < 8000000000000000000 then (A k + O k) * 1000000000 - 1 else 8000000000000000000) := hide (by unfold hiS mnI gE; rw [if_pos k0])
            generalize (A k + O k) * 1000000000 = x0 at *
            obtain ⟨g1, g2⟩ := g1
            clear hc hlt hbb
            by_cases q : x0 - 1 < 8000000000000000000
            · rw [if_pos q] at HL
              go_wp2_with fail
              with_reducible refine C0.out.mono ?_
              rintro e w1 ⟨rfl, h1⟩
              have H1 := hide (HB1.out.trans (h1.mono HB1.out.size))
              clear h1
              go_wp2_with fail
              go_meet
              exact ⟨by rw [HL.out], H1.out⟩
            · rw [if_neg q] at HL
              go_wp2_with fail
              with_reducible refine C0.out.mono ?_
              rintro e w1 ⟨rfl, h1⟩
              have H1 := hide (HB1.out.trans (h1.mono HB1.out.size))
              clear h1
              go_wp2_with fail
              go_meet
              exact ⟨by rw [HL.out], H1.out⟩
          · have HL : Hid (hiS A O n k = 8000000000000000000) := hide (by unfold hiS; rw [if_neg k0])
            go_wp2_with fail
            go_meet
            exact ⟨by rw [HL.out], HB1.out⟩
        case rest =>
          clear d0 d2 hz1 HB1
          obtain ⟨rfl, hb2⟩ := hcut
          have HF := hide (leap3 HB.out hb2)
          clear hb2
          obtain ⟨o1, o2⟩ := offP_bd HT.out.b HT.out.o (show k ≤ n by omega)
          obtain ⟨l1, l2⟩ := lo_bd HT.out (show k ≤ n by omega)
          obtain ⟨h1, h2⟩ := hi_bd (k := k) HT.out
          have HOK : Hid (okS B A O n u k = (decide (loS A O k ≤ u + offP B O k * 1000000000) && decide (u + offP B O k * 1000000000 ≤ hiS A O n k))) := hide rfl
          have HOG : Hid (okG B A O n u k = (decide (nxS B A O u k ≤ hiS A O n k) && instB (nxS B A O u k - offP B O k * 1000000000))) := hide rfl
          have HNX : Hid (nxS B A O u k = if loS A O k < u + offP B O k * 1000000000 + 1 then u + offP B O k * 1000000000 + 1 else loS A O k) := hide rfl
          have HTA : Hid (taS B O u k = u + offP B O k * 1000000000) := hide rfl
          generalize offP B O k = o at *
          generalize loS A O k = L at *
          generalize hiS A O n k = H at *
          rcases (show (L ≤ u + o * 1000000000 ∧ u + o * 1000000000 ≤ H) ∨ (L ≤ u + o * 1000000000 ∧ H < u + o * 1000000000) ∨ (u + o * 1000000000 < L) by omega) with ⟨q1, q2⟩ | ⟨q1, q2⟩ | q1
          · have E := HE.out k HS.out hlt' (by rw [HOK.out]; simp only [Bool.and_eq_true, decide_eq_true_eq]; exact ⟨q1, q2⟩)
            rw [HTA.out] at E
            subst E
            have HFF := hide (boxB HF.out)
            go_wp2
            go_ret2
            exact ⟨rfl, HFF.out⟩
          · have M := hide (stk_miss (v := taS B O u) HS.out (show okS B A O n u k = false by rw [HOK.out]; simp; omega))
            rw [if_pos (by omega)] at HNX
            have hN : L < u + o * 1000000000 + 1 := by omega
            have G0 : Hid (okG B A O n u k = false) := hide (by rw [HOG.out, HNX.out]; simp; omega)
            cases fd with
            | true =>
              have G := hide ((stk_keep (n := k + 1) (show (stk (okG B A O n u) (nxS B A O u) k).2 = true by rw [HG.out]) (by omega)).trans HG.out)
              go_wp2
              go_roundw
              case rel => exact ⟨k + 1, lv, true, by omega, by go_num, rfl, rfl, G.out, M.out, HF.out⟩
              case measure => simp [intOf]; omega
            | false =>
              have hs0 : (stk (okG B A O n u) (nxS B A O u) k).2 = false := by rw [HG.out]
              have hlv : lv = 0 := by have := stk_none hs0; rw [HG.out] at this; exact (Prod.mk.inj this).1
              subst hlv
              have G := hide (stk_same hs0 G0.out)
              clear hs0
              have hN2 : ¬ u + o * 1000000000 + 1 ≤ H := by omega
              go_wp2
              go_roundw
              case rel => exact ⟨k + 1, 0, false, by omega, by go_num, rfl, rfl, G.out, M.out, HF.out⟩
              case measure => simp [intOf]; omega
          · have M := hide (stk_miss (v := taS B O u) HS.out (show okS B A O n u k = false by rw [HOK.out]; simp; omega))
            rw [if_neg (by omega)] at HNX
            have hN : ¬ L < u + o * 1000000000 + 1 := by omega
            cases fd with
            | true =>
              have G := hide ((stk_keep (n := k + 1) (show (stk (okG B A O n u) (nxS B A O u) k).2 = true by rw [HG.out]) (by omega)).trans HG.out)
              go_wp2
              go_roundw
              case rel => exact ⟨k + 1, lv, true, by omega, by go_num, rfl, rfl, G.out, M.out, HF.out⟩
              case measure => simp [intOf]; omega
            | false =>
              have hs0 : (stk (okG B A O n u) (nxS B A O u) k).2 = false := by rw [HG.out]
              have hlv : lv = 0 := by have := stk_none hs0; rw [HG.out] at this; exact (Prod.mk.inj this).1
              subst hlv
              by_cases q4 : L ≤ H
              · have CI := hide fun V => instant_any (L - o * 1000000000) V
                cases hi : instB (L - o * 1000000000) with
                | true =>
                  have G := hide (stk_set hs0 (show okG B A O n u k = true by rw [HOG.out, HNX.out, hi]; simpa using q4))
                  rw [HNX.out] at G
                  rw [hi] at CI
                  clear hs0 hi
                  go_wp2_with (go_at_call 24; with_reducible refine (CI.out _).mono ?_; rintro e w' ⟨rfl, rfl⟩)
                  go_roundw
                  case rel => exact ⟨k + 1, L, true, by omega, by go_num, rfl, rfl, G.out, M.out, HF.out⟩
                  case measure => simp [intOf]; omega
                | false =>
                  have G := hide (stk_same hs0 (show okG B A O n u k = false by rw [HOG.out, HNX.out, hi]; simp))
                  rw [hi] at CI
                  clear hs0 hi
                  go_wp2_with (go_at_call 24; with_reducible refine (CI.out _).mono ?_; rintro e w' ⟨rfl, rfl⟩)
                  go_roundw
                  case rel => exact ⟨k + 1, 0, false, by omega, by go_num, rfl, rfl, G.out, M.out, HF.out⟩
                  case measure => simp [intOf]; omega
              · have G := hide (stk_same hs0 (show okG B A O n u k = false by rw [HOG.out, HNX.out]; simp; intro h; exact absurd h (by omega)))
                clear hs0
                go_wp2
                go_roundw
                case rel => exact ⟨k + 1, 0, false, by omega, by go_num, rfl, rfl, G.out, M.out, HF.out⟩
                case measure => simp [intOf]; omega
    · obtain rfl : k = n + 1 := by omega
      have E := HN.out HS.out
      rw [HG.out] at E
      subst E
      go_wp2
      go_ret2
      exact ⟨rfl, hbw⟩
end Go.Proofs.YtnnfaejejnfckaaDoor.Smr
