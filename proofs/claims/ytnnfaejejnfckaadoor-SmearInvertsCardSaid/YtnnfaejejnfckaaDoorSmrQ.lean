/- The contracts of layer 7: step, smooth and Tai of the reference. -/
import Derived.Test.YtnnfaejejnfckaaDoorSmrZ
namespace Go.Proofs.YtnnfaejejnfckaaDoor.Smr
open Go.RowKit Aid Civ Leap
set_option maxRecDepth 100000 in
set_option maxHeartbeats 6400000 in
theorem Rstep_no (B X : Int) (a : Option Addr) (n cap : Nat) (A O : Nat → Int) (u : Int) (w : World) (hr : Ents w a n A O) (T : Tab B X A O n) (hu : instB u = true) :
    Calls Tryd.prog 31 #[.agg #[.int .i64 B, .int .i64 X, .slice a n cap], .agg #[.int .i64 1, .int .i64 0], .int .i64 u, .bool false] w fun e w' => e = .returned (.tuple #[.int .i64 (stk (okS B A O n u) (taS B O u) (n + 1)).1, .bool (stk (okS B A O n u) (taS B O u) (n + 1)).2]) ∧ Below w.heap.size w w' := by
  have hn := hr.1
  have HT := hide T
  have HR := hide hr
  have n64 := T.n64
  have HU := hide hu
  obtain ⟨u1, u2⟩ := instB_iff.1 hu
  have HEQ := hide (fun (k : Nat) (h : (stk (okS B A O n u) (taS B O u) k).2 = false) (hp : (okS B A O n u) k = true) (hk : k < n + 1) => stk_hit (v := taS B O u) (n := n + 1) h hp hk)
  have HNN := hide (fun (k : Nat) (e : k = n + 1) (h : (stk (okS B A O n u) (taS B O u) k).2 = false) => show stk (okS B A O n u) (taS B O u) (n + 1) = (0, false) from by subst e; exact stk_none h)
  generalize stk (okS B A O n u) (taS B O u) (n + 1) = R at *
  clear T hr hu
  go_enter Tryd.func31, Tryd.ntmps31
  go_wp2
  go_loopw [10] (fun i wr => ∃ k : Nat, k ≤ n + 1 ∧ i = .int .i64 k ∧ (stk (okS B A O n u) (taS B O u) k).2 = false ∧ Below (w.heap.size + 2) ((w.alloc (.cells #[.int .i64 B, .int .i64 X, .slice a n cap] 24)).alloc (.cells #[.int .i64 1, .int .i64 0] 26)) wr) (fun i _ => n + 1 - (intOf i).toNat)
  case atStart => exact ⟨0, by omega, rfl, rfl, Below.refl _ _⟩
  case round =>
    obtain ⟨k, hk, rfl, hs, hb⟩ := hrel
    have HS := hide hs
    have HB := hide hb
    obtain ⟨c0, c1, c2, d0, d1, hz⟩ := cells5 hb
    have hbw := boxB2 hb
    have HBW := hide hbw
    clear hs hb
    by_cases hlt' : k < n + 1
    · have hle : (k : Int) ≤ (n : Int) := by omega
      have HK := hide (fun (V : World) (g : Below wr.heap.size wr V) => by
        obtain ⟨c0, c1, c2, d0, d1, _⟩ := cells5 (low2 HB.out g)
        exact And.intro c0 (And.intro c1 (And.intro c2 (And.intro d0 (And.intro d1 trivial)))))
      clear hbw
      go_upto_if 22 with fail
      go_cut [11] (fun l wx => l = .int .i64 (loS A O k) ∧ Below wr.heap.size wr wx)
      case first =>
        by_cases k0 : k = 0
        · subst k0
          go_wp2_with fail
          go_meet
          exact ⟨by simp [loS], Below.refl _ _⟩
        · obtain ⟨b, off, rfl, hlt, hc⟩ := HR.out.at_ (by omega)
          have hbl : b < wr.heap.size := by omega
          have HE := hide (fun (V : World) (g : Below wr.heap.size wr V) => show V.cell? ⟨b, off + (k - 1) * 2, none⟩ = some (.int .i64 (A (k - 1))) ∧ V.cell? ⟨b, off + (k - 1) * 2 + 1, none⟩ = some (.int .i64 (O (k - 1))) from
            ⟨((HBW.out.trans (g.mono HBW.out.size)).cell (p := ⟨b, off + (k - 1) * 2, none⟩) hlt).trans (hc (k - 1) (by omega)).1, ((HBW.out.trans (g.mono HBW.out.size)).cell (p := ⟨b, off + (k - 1) * 2 + 1, none⟩) hlt).trans (hc (k - 1) (by omega)).2⟩)
          have cb := fun V (_ : Below wr.heap.size wr V) => begin_any 1 0 (A (k - 1)) (O (k - 1)) V (.inl ⟨rfl, rfl⟩) (HT.out.a (k - 1) (by omega)) (HT.out.o (k - 1) (by omega))
          rw [show bgn 1 0 (A (k - 1)) (O (k - 1)) = (A (k - 1) + O (k - 1)) * 1000000000 by simp [bgn, shf]] at cb
          have HL : Hid (loS A O k = if -8000000000000000000 < (A (k - 1) + O (k - 1)) * 1000000000 then (A (k - 1) + O (k - 1)) * 1000000000 else -8000000000000000000) := hide (by unfold loS mxI gE; rw [if_neg k0])
          generalize (A (k - 1) + O (k - 1)) * 1000000000 = x0 at *
          have CB := hide (based (Nat.le_refl _) cb)
          have k1 : (0 : Int) ≤ (k : Int) - 1 := by omega
          have k2 : (k : Int) - 1 < (n : Int) := by omega
          have k3 : ((k : Int) - 1).toNat = k - 1 := by omega
          have k4 : IntKind.i64.wrap ((k : Int) - 1) = (k : Int) - 1 := IntWalk.i64_in _ (by omega)
          have k5 : 0 < k := by omega
          have hbr := Below.refl wr.heap.size wr
          clear hc hlt k0 cb
          by_cases q : -8000000000000000000 < x0
          · rw [if_pos q] at HL
            go_wp2_with fail
            have hne := lt_some wr
            have y0 := fun V : Lt wr => (HK.out _ V.h).2.2.1
            have y1 := fun V : Lt wr => (HK.out _ V.h).2.2.2.1
            have y2 := fun V : Lt wr => (HK.out _ V.h).2.2.2.2.1
            have y3 := fun V : Lt wr => (HE.out _ V.h).1
            have y4 := fun V : Lt wr => (HE.out _ V.h).2
            refine region_lt wr (by kernel_rfl) (by kernel_rfl) (by assumption) ?_
            repeat (first | go_big_quiet_step (first | (go_at_call 48; with_reducible exact call_lt (CB.out _ (Lt.h _)))) | quiet_step (first | (go_at_call 48; with_reducible exact call_lt (CB.out _ (Lt.h _)))))
            refine wpQuiet_nil ?_
            intro _ hw'
            obtain ⟨V, rfl⟩ := hw'
            clear y0 y1 y2 y3 y4 hne
            go_wp2_with fail
            go_meet
            exact ⟨by rw [HL.out], V.h⟩
          · rw [if_neg q] at HL
            go_wp2_with fail
            have hne := lt_some wr
            have y0 := fun V : Lt wr => (HK.out _ V.h).2.2.1
            have y1 := fun V : Lt wr => (HK.out _ V.h).2.2.2.1
            have y2 := fun V : Lt wr => (HK.out _ V.h).2.2.2.2.1
            have y3 := fun V : Lt wr => (HE.out _ V.h).1
            have y4 := fun V : Lt wr => (HE.out _ V.h).2
            refine region_lt wr (by kernel_rfl) (by kernel_rfl) (by assumption) ?_
            repeat (first | go_big_quiet_step (first | (go_at_call 48; with_reducible exact call_lt (CB.out _ (Lt.h _)))) | quiet_step (first | (go_at_call 48; with_reducible exact call_lt (CB.out _ (Lt.h _)))))
            refine wpQuiet_nil ?_
            intro _ hw'
            obtain ⟨V, rfl⟩ := hw'
            clear y0 y1 y2 y3 y4 hne
            go_wp2_with fail
            go_meet
            exact ⟨by rw [HL.out], V.h⟩
      case rest =>
        obtain ⟨rfl, hb1⟩ := hcut
        have HB1 := hide hb1
        obtain ⟨e0, e1, e2, f0, f1, _⟩ := HK.out _ hb1
        have hz1 : w.heap.size + 2 ≤ wc.heap.size := by have := hb1.size; omega
        clear c0 c1 c2 d0 d1 hb1
        go_upto_if 37 with fail
        go_cut [12] (fun h wx => h = .int .i64 (hiS A O n k) ∧ Below wr.heap.size wr wx)
        case first =>
          by_cases k0 : k < n
          · obtain ⟨b, off, rfl, hlt, hc⟩ := HR.out.at_ (by omega)
            have hbb := HBW.out.trans (HB1.out.mono HBW.out.size)
            have hbl : b < wc.heap.size := by omega
            have HE := hide (fun (V : World) (g : Below wc.heap.size wc V) => show V.cell? ⟨b, off + k * 2, none⟩ = some (.int .i64 (A k)) ∧ V.cell? ⟨b, off + k * 2 + 1, none⟩ = some (.int .i64 (O k)) from
              ⟨((hbb.trans (g.mono hbb.size)).cell (p := ⟨b, off + k * 2, none⟩) hlt).trans (hc k k0).1, ((hbb.trans (g.mono hbb.size)).cell (p := ⟨b, off + k * 2 + 1, none⟩) hlt).trans (hc k k0).2⟩)
            have HKc := hide (fun (V : World) (g : Below wc.heap.size wc V) => HK.out V (HB1.out.trans (g.mono HB1.out.size)))
            have cb := fun V (_ : Below wc.heap.size wc V) => begin_any 1 0 (A k) (O k) V (.inl ⟨rfl, rfl⟩) (HT.out.a k k0) (HT.out.o k k0)
            rw [show bgn 1 0 (A k) (O k) = (A k + O k) * 1000000000 by simp [bgn, shf]] at cb
            have g1 := gE_bd HT.out k0
            have HL : Hid (hiS A O n k = if (A k + O k) * 1000000000 - 1 < 8000000000000000000 then (A k + O k) * 1000000000 - 1 else 8000000000000000000) := hide (by unfold hiS mnI gE; rw [if_pos k0])
            generalize (A k + O k) * 1000000000 = x0 at *
            obtain ⟨g1, g2⟩ := g1
            have CB := hide (based (Nat.le_refl _) cb)
            have k1 : (0 : Int) ≤ (k : Int) := by omega
            have k2 : (k : Int) < (n : Int) := by omega
            have hwx : IntKind.i64.wrap (x0 - 1) = x0 - 1 := IntWalk.i64_in _ (by omega)
            have hbr := Below.refl wc.heap.size wc
            clear hc hlt hbb cb
            by_cases q : x0 - 1 < 8000000000000000000
            · rw [if_pos q] at HL
              go_wp2_with fail
              have hne := lt_some wc
              have y0 := fun V : Lt wc => (HKc.out _ V.h).2.2.1
              have y1 := fun V : Lt wc => (HKc.out _ V.h).2.2.2.1
              have y2 := fun V : Lt wc => (HKc.out _ V.h).2.2.2.2.1
              have y3 := fun V : Lt wc => (HE.out _ V.h).1
              have y4 := fun V : Lt wc => (HE.out _ V.h).2
              refine region_lt wc (by kernel_rfl) (by kernel_rfl) (by assumption) ?_
              repeat (first | go_big_quiet_step (first | (go_at_call 48; with_reducible exact call_lt (CB.out _ (Lt.h _)))) | quiet_step (first | (go_at_call 48; with_reducible exact call_lt (CB.out _ (Lt.h _)))))
              refine wpQuiet_nil ?_
              intro _ hw'
              obtain ⟨V, rfl⟩ := hw'
              clear y0 y1 y2 y3 y4 hne
              go_wp2_with fail
              go_meet
              exact ⟨by rw [HL.out], HB1.out.trans (V.h.mono HB1.out.size)⟩
            · rw [if_neg q] at HL
              go_wp2_with fail
              have hne := lt_some wc
              have y0 := fun V : Lt wc => (HKc.out _ V.h).2.2.1
              have y1 := fun V : Lt wc => (HKc.out _ V.h).2.2.2.1
              have y2 := fun V : Lt wc => (HKc.out _ V.h).2.2.2.2.1
              have y3 := fun V : Lt wc => (HE.out _ V.h).1
              have y4 := fun V : Lt wc => (HE.out _ V.h).2
              refine region_lt wc (by kernel_rfl) (by kernel_rfl) (by assumption) ?_
              repeat (first | go_big_quiet_step (first | (go_at_call 48; with_reducible exact call_lt (CB.out _ (Lt.h _)))) | quiet_step (first | (go_at_call 48; with_reducible exact call_lt (CB.out _ (Lt.h _)))))
              refine wpQuiet_nil ?_
              intro _ hw'
              obtain ⟨V, rfl⟩ := hw'
              clear y0 y1 y2 y3 y4 hne
              go_wp2_with fail
              go_meet
              exact ⟨by rw [HL.out], HB1.out.trans (V.h.mono HB1.out.size)⟩
          · have HL : Hid (hiS A O n k = 8000000000000000000) := hide (by unfold hiS; rw [if_neg k0])
            go_wp2_with fail
            go_meet
            exact ⟨by rw [HL.out], HB1.out⟩
        case rest =>
          clear e0 e1 e2 f0 f1 hz1 HB1
          obtain ⟨rfl, hb2⟩ := hcut
          have HF := hide (low2 HB.out hb2)
          obtain ⟨e0, e1, e2, f0, f1, _⟩ := HK.out _ hb2
          obtain ⟨o1, o2⟩ := offP_bd HT.out.b HT.out.o (show k ≤ n by omega)
          obtain ⟨l1, l2⟩ := lo_bd HT.out (show k ≤ n by omega)
          obtain ⟨h1, h2⟩ := hi_bd (k := k) HT.out
          have CO := hide (based (Nat.le_refl _) fun V (g : Below wc.heap.size wc V) => offset_any B X a n cap A O k V (HR.out.below (boxB2 (low2 HF.out g))) (by omega))
          have HKw := hide (fun (V : World) (g : Below wc.heap.size wc V) => HK.out V (hb2.trans (g.mono hb2.size)))
          have hbc := Below.refl wc.heap.size wc
          have HOK : Hid (okS B A O n u k = (decide (loS A O k ≤ u + offP B O k * 1000000000) && decide (u + offP B O k * 1000000000 ≤ hiS A O n k))) := hide rfl
          have HOG : Hid (okG B A O n u k = (decide (nxS B A O u k ≤ hiS A O n k) && instB (nxS B A O u k - offP B O k * 1000000000))) := hide rfl
          have HNX : Hid (nxS B A O u k = if loS A O k < u + offP B O k * 1000000000 + 1 then u + offP B O k * 1000000000 + 1 else loS A O k) := hide rfl
          have HTA : Hid (taS B O u k = u + offP B O k * 1000000000) := hide rfl
          generalize offP B O k = o at *
          generalize loS A O k = L at *
          generalize hiS A O n k = H at *
          clear hb2
          have hsub : u + o * 1000000000 - o * 1000000000 = u := by omega
          have CI := hide (based (Nat.le_refl _) fun V (_ : Below wc.heap.size wc V) => by have q := inside_any u V; rw [HU.out] at q; exact q.mono fun _ w' (h : _ ∧ V = w') => And.intro h.1 (by rw [← h.2]; exact Below.refl _ _))
          rcases (show (L ≤ u + o * 1000000000 ∧ u + o * 1000000000 ≤ H) ∨ (L ≤ u + o * 1000000000 ∧ H < u + o * 1000000000) ∨ (u + o * 1000000000 < L) by omega) with ⟨q1, q2⟩ | ⟨q1, q2⟩ | q1
          · have E := HEQ.out k HS.out (show okS B A O n u k = true by rw [HOK.out]; simp only [Bool.and_eq_true, decide_eq_true_eq]; exact ⟨q1, q2⟩) hlt'
            rw [HTA.out] at E
            subst E
            go_wp2_with fail
            with_reducible refine (CO.out _ hbc).mono ?_
            rintro e w3 ⟨rfl, b3⟩
            obtain ⟨m0, m1, m2, n0, n1, _⟩ := HKw.out _ b3
            go_wp2_with fail
            with_reducible refine (CO.out _ b3).mono ?_
            rintro e w4 ⟨rfl, b4⟩
            go_wp2_with fail
            with_reducible refine (CI.out _ b4).mono ?_
            rintro e w5 ⟨rfl, b5⟩
            have HFF := hide (boxB2 (low2 HF.out b5))
            go_wp2
            go_ret2
            exact ⟨rfl, HFF.out⟩
          · have M := hide (stk_miss (v := taS B O u) HS.out (show okS B A O n u k = false by rw [HOK.out]; simp; omega))
            go_wp2_with fail
            with_reducible refine (CO.out _ hbc).mono ?_
            rintro e w3 ⟨rfl, b3⟩
            obtain ⟨m0, m1, m2, n0, n1, _⟩ := HKw.out _ b3
            have HFF := hide (low2 HF.out b3)
            go_wp2
            go_roundw
            case rel => exact ⟨k + 1, by omega, by go_num, M.out, HFF.out⟩
            case measure => simp [intOf]; omega
          · have M := hide (stk_miss (v := taS B O u) HS.out (show okS B A O n u k = false by rw [HOK.out]; simp; omega))
            go_wp2_with fail
            with_reducible refine (CO.out _ hbc).mono ?_
            rintro e w3 ⟨rfl, b3⟩
            obtain ⟨m0, m1, m2, n0, n1, _⟩ := HKw.out _ b3
            have HFF := hide (low2 HF.out b3)
            go_wp2
            go_roundw
            case rel => exact ⟨k + 1, by omega, by go_num, M.out, HFF.out⟩
            case measure => simp [intOf]; omega
    · have E := HNN.out k (by omega) HS.out
      subst E
      obtain rfl : k = n + 1 := by omega
      go_wp2
      go_ret2
      exact ⟨rfl, hbw⟩
set_option maxRecDepth 100000 in
set_option maxHeartbeats 6400000 in
theorem Rstep_yes (B X : Int) (a : Option Addr) (n cap : Nat) (A O : Nat → Int) (u : Int) (w : World) (hr : Ents w a n A O) (T : Tab B X A O n) (hu : instB u = true) :
    Calls Tryd.prog 31 #[.agg #[.int .i64 B, .int .i64 X, .slice a n cap], .agg #[.int .i64 1, .int .i64 0], .int .i64 u, .bool true] w fun e w' => e = .returned (.tuple #[.int .i64 (stk (okG B A O n u) (nxS B A O u) (n + 1)).1, .bool (stk (okG B A O n u) (nxS B A O u) (n + 1)).2]) ∧ Below w.heap.size w w' := by
  have hn := hr.1
  have HT := hide T
  have HR := hide hr
  have n64 := T.n64
  have HU := hide hu
  obtain ⟨u1, u2⟩ := instB_iff.1 hu
  have HEQ := hide (fun (k : Nat) (h : (stk (okG B A O n u) (nxS B A O u) k).2 = false) (hp : (okG B A O n u) k = true) (hk : k < n + 1) => stk_hit (v := nxS B A O u) (n := n + 1) h hp hk)
  have HNN := hide (fun (k : Nat) (e : k = n + 1) (h : (stk (okG B A O n u) (nxS B A O u) k).2 = false) => show stk (okG B A O n u) (nxS B A O u) (n + 1) = (0, false) from by subst e; exact stk_none h)
  generalize stk (okG B A O n u) (nxS B A O u) (n + 1) = R at *
  clear T hr hu
  go_enter Tryd.func31, Tryd.ntmps31
  go_wp2
  go_loopw [10] (fun i wr => ∃ k : Nat, k ≤ n + 1 ∧ i = .int .i64 k ∧ (stk (okG B A O n u) (nxS B A O u) k).2 = false ∧ Below (w.heap.size + 2) ((w.alloc (.cells #[.int .i64 B, .int .i64 X, .slice a n cap] 24)).alloc (.cells #[.int .i64 1, .int .i64 0] 26)) wr) (fun i _ => n + 1 - (intOf i).toNat)
  case atStart => exact ⟨0, by omega, rfl, rfl, Below.refl _ _⟩
  case round =>
    obtain ⟨k, hk, rfl, hs, hb⟩ := hrel
    have HS := hide hs
    have HB := hide hb
    obtain ⟨c0, c1, c2, d0, d1, hz⟩ := cells5 hb
    have hbw := boxB2 hb
    have HBW := hide hbw
    clear hs hb
    by_cases hlt' : k < n + 1
    · have hle : (k : Int) ≤ (n : Int) := by omega
      have HK := hide (fun (V : World) (g : Below wr.heap.size wr V) => by
        obtain ⟨c0, c1, c2, d0, d1, _⟩ := cells5 (low2 HB.out g)
        exact And.intro c0 (And.intro c1 (And.intro c2 (And.intro d0 (And.intro d1 trivial)))))
      clear hbw
      go_upto_if 22 with fail
      go_cut [11] (fun l wx => l = .int .i64 (loS A O k) ∧ Below wr.heap.size wr wx)
      case first =>
        by_cases k0 : k = 0
        · subst k0
          go_wp2_with fail
          go_meet
          exact ⟨by simp [loS], Below.refl _ _⟩
        · obtain ⟨b, off, rfl, hlt, hc⟩ := HR.out.at_ (by omega)
          have hbl : b < wr.heap.size := by omega
          have HE := hide (fun (V : World) (g : Below wr.heap.size wr V) => show V.cell? ⟨b, off + (k - 1) * 2, none⟩ = some (.int .i64 (A (k - 1))) ∧ V.cell? ⟨b, off + (k - 1) * 2 + 1, none⟩ = some (.int .i64 (O (k - 1))) from
            ⟨((HBW.out.trans (g.mono HBW.out.size)).cell (p := ⟨b, off + (k - 1) * 2, none⟩) hlt).trans (hc (k - 1) (by omega)).1, ((HBW.out.trans (g.mono HBW.out.size)).cell (p := ⟨b, off + (k - 1) * 2 + 1, none⟩) hlt).trans (hc (k - 1) (by omega)).2⟩)
          have cb := fun V (_ : Below wr.heap.size wr V) => begin_any 1 0 (A (k - 1)) (O (k - 1)) V (.inl ⟨rfl, rfl⟩) (HT.out.a (k - 1) (by omega)) (HT.out.o (k - 1) (by omega))
          rw [show bgn 1 0 (A (k - 1)) (O (k - 1)) = (A (k - 1) + O (k - 1)) * 1000000000 by simp [bgn, shf]] at cb
          have HL : Hid (loS A O k = if -8000000000000000000 < (A (k - 1) + O (k - 1)) * 1000000000 then (A (k - 1) + O (k - 1)) * 1000000000 else -8000000000000000000) := hide (by unfold loS mxI gE; rw [if_neg k0])
          generalize (A (k - 1) + O (k - 1)) * 1000000000 = x0 at *
          have CB := hide (based (Nat.le_refl _) cb)
          have k1 : (0 : Int) ≤ (k : Int) - 1 := by omega
          have k2 : (k : Int) - 1 < (n : Int) := by omega
          have k3 : ((k : Int) - 1).toNat = k - 1 := by omega
          have k4 : IntKind.i64.wrap ((k : Int) - 1) = (k : Int) - 1 := IntWalk.i64_in _ (by omega)
          have k5 : 0 < k := by omega
          have hbr := Below.refl wr.heap.size wr
          clear hc hlt k0 cb
          by_cases q : -8000000000000000000 < x0
          · rw [if_pos q] at HL
            go_wp2_with fail
            have hne := lt_some wr
            have y0 := fun V : Lt wr => (HK.out _ V.h).2.2.1
            have y1 := fun V : Lt wr => (HK.out _ V.h).2.2.2.1
            have y2 := fun V : Lt wr => (HK.out _ V.h).2.2.2.2.1
            have y3 := fun V : Lt wr => (HE.out _ V.h).1
            have y4 := fun V : Lt wr => (HE.out _ V.h).2
            refine region_lt wr (by kernel_rfl) (by kernel_rfl) (by assumption) ?_
            repeat (first | go_big_quiet_step (first | (go_at_call 48; with_reducible exact call_lt (CB.out _ (Lt.h _)))) | quiet_step (first | (go_at_call 48; with_reducible exact call_lt (CB.out _ (Lt.h _)))))
            refine wpQuiet_nil ?_
            intro _ hw'
            obtain ⟨V, rfl⟩ := hw'
            clear y0 y1 y2 y3 y4 hne
            go_wp2_with fail
            go_meet
            exact ⟨by rw [HL.out], V.h⟩
          · rw [if_neg q] at HL
            go_wp2_with fail
            have hne := lt_some wr
            have y0 := fun V : Lt wr => (HK.out _ V.h).2.2.1
            have y1 := fun V : Lt wr => (HK.out _ V.h).2.2.2.1
            have y2 := fun V : Lt wr => (HK.out _ V.h).2.2.2.2.1
            have y3 := fun V : Lt wr => (HE.out _ V.h).1
            have y4 := fun V : Lt wr => (HE.out _ V.h).2
            refine region_lt wr (by kernel_rfl) (by kernel_rfl) (by assumption) ?_
            repeat (first | go_big_quiet_step (first | (go_at_call 48; with_reducible exact call_lt (CB.out _ (Lt.h _)))) | quiet_step (first | (go_at_call 48; with_reducible exact call_lt (CB.out _ (Lt.h _)))))
            refine wpQuiet_nil ?_
            intro _ hw'
            obtain ⟨V, rfl⟩ := hw'
            clear y0 y1 y2 y3 y4 hne
            go_wp2_with fail
            go_meet
            exact ⟨by rw [HL.out], V.h⟩
      case rest =>
        obtain ⟨rfl, hb1⟩ := hcut
        have HB1 := hide hb1
        obtain ⟨e0, e1, e2, f0, f1, _⟩ := HK.out _ hb1
        have hz1 : w.heap.size + 2 ≤ wc.heap.size := by have := hb1.size; omega
        clear c0 c1 c2 d0 d1 hb1
        go_upto_if 37 with fail
        go_cut [12] (fun h wx => h = .int .i64 (hiS A O n k) ∧ Below wr.heap.size wr wx)
        case first =>
          by_cases k0 : k < n
          · obtain ⟨b, off, rfl, hlt, hc⟩ := HR.out.at_ (by omega)
            have hbb := HBW.out.trans (HB1.out.mono HBW.out.size)
            have hbl : b < wc.heap.size := by omega
            have HE := hide (fun (V : World) (g : Below wc.heap.size wc V) => show V.cell? ⟨b, off + k * 2, none⟩ = some (.int .i64 (A k)) ∧ V.cell? ⟨b, off + k * 2 + 1, none⟩ = some (.int .i64 (O k)) from
              ⟨((hbb.trans (g.mono hbb.size)).cell (p := ⟨b, off + k * 2, none⟩) hlt).trans (hc k k0).1, ((hbb.trans (g.mono hbb.size)).cell (p := ⟨b, off + k * 2 + 1, none⟩) hlt).trans (hc k k0).2⟩)
            have HKc := hide (fun (V : World) (g : Below wc.heap.size wc V) => HK.out V (HB1.out.trans (g.mono HB1.out.size)))
            have cb := fun V (_ : Below wc.heap.size wc V) => begin_any 1 0 (A k) (O k) V (.inl ⟨rfl, rfl⟩) (HT.out.a k k0) (HT.out.o k k0)
            rw [show bgn 1 0 (A k) (O k) = (A k + O k) * 1000000000 by simp [bgn, shf]] at cb
            have g1 := gE_bd HT.out k0
            have HL : Hid (hiS A O n k = if (A k + O k) * 1000000000 - 1 < 8000000000000000000 then (A k + O k) * 1000000000 - 1 else 8000000000000000000) := hide (by unfold hiS mnI gE; rw [if_pos k0])
            generalize (A k + O k) * 1000000000 = x0 at *
            obtain ⟨g1, g2⟩ := g1
            have CB := hide (based (Nat.le_refl _) cb)
            have k1 : (0 : Int) ≤ (k : Int) := by omega
            have k2 : (k : Int) < (n : Int) := by omega
            have hwx : IntKind.i64.wrap (x0 - 1) = x0 - 1 := IntWalk.i64_in _ (by omega)
            have hbr := Below.refl wc.heap.size wc
            clear hc hlt hbb cb
            by_cases q : x0 - 1 < 8000000000000000000
            · rw [if_pos q] at HL
              go_wp2_with fail
              have hne := lt_some wc
              have y0 := fun V : Lt wc => (HKc.out _ V.h).2.2.1
              have y1 := fun V : Lt wc => (HKc.out _ V.h).2.2.2.1
              have y2 := fun V : Lt wc => (HKc.out _ V.h).2.2.2.2.1
              have y3 := fun V : Lt wc => (HE.out _ V.h).1
              have y4 := fun V : Lt wc => (HE.out _ V.h).2
              refine region_lt wc (by kernel_rfl) (by kernel_rfl) (by assumption) ?_
              repeat (first | go_big_quiet_step (first | (go_at_call 48; with_reducible exact call_lt (CB.out _ (Lt.h _)))) | quiet_step (first | (go_at_call 48; with_reducible exact call_lt (CB.out _ (Lt.h _)))))
              refine wpQuiet_nil ?_
              intro _ hw'
              obtain ⟨V, rfl⟩ := hw'
              clear y0 y1 y2 y3 y4 hne
              go_wp2_with fail
              go_meet
              exact ⟨by rw [HL.out], HB1.out.trans (V.h.mono HB1.out.size)⟩
            · rw [if_neg q] at HL
              go_wp2_with fail
              have hne := lt_some wc
              have y0 := fun V : Lt wc => (HKc.out _ V.h).2.2.1
              have y1 := fun V : Lt wc => (HKc.out _ V.h).2.2.2.1
              have y2 := fun V : Lt wc => (HKc.out _ V.h).2.2.2.2.1
              have y3 := fun V : Lt wc => (HE.out _ V.h).1
              have y4 := fun V : Lt wc => (HE.out _ V.h).2
              refine region_lt wc (by kernel_rfl) (by kernel_rfl) (by assumption) ?_
              repeat (first | go_big_quiet_step (first | (go_at_call 48; with_reducible exact call_lt (CB.out _ (Lt.h _)))) | quiet_step (first | (go_at_call 48; with_reducible exact call_lt (CB.out _ (Lt.h _)))))
              refine wpQuiet_nil ?_
              intro _ hw'
              obtain ⟨V, rfl⟩ := hw'
              clear y0 y1 y2 y3 y4 hne
              go_wp2_with fail
              go_meet
              exact ⟨by rw [HL.out], HB1.out.trans (V.h.mono HB1.out.size)⟩
          · have HL : Hid (hiS A O n k = 8000000000000000000) := hide (by unfold hiS; rw [if_neg k0])
            go_wp2_with fail
            go_meet
            exact ⟨by rw [HL.out], HB1.out⟩
        case rest =>
          clear e0 e1 e2 f0 f1 hz1 HB1
          obtain ⟨rfl, hb2⟩ := hcut
          have HF := hide (low2 HB.out hb2)
          obtain ⟨e0, e1, e2, f0, f1, _⟩ := HK.out _ hb2
          obtain ⟨o1, o2⟩ := offP_bd HT.out.b HT.out.o (show k ≤ n by omega)
          obtain ⟨l1, l2⟩ := lo_bd HT.out (show k ≤ n by omega)
          obtain ⟨h1, h2⟩ := hi_bd (k := k) HT.out
          have CO := hide (based (Nat.le_refl _) fun V (g : Below wc.heap.size wc V) => offset_any B X a n cap A O k V (HR.out.below (boxB2 (low2 HF.out g))) (by omega))
          have HKw := hide (fun (V : World) (g : Below wc.heap.size wc V) => HK.out V (hb2.trans (g.mono hb2.size)))
          have hbc := Below.refl wc.heap.size wc
          have HOK : Hid (okS B A O n u k = (decide (loS A O k ≤ u + offP B O k * 1000000000) && decide (u + offP B O k * 1000000000 ≤ hiS A O n k))) := hide rfl
          have HOG : Hid (okG B A O n u k = (decide (nxS B A O u k ≤ hiS A O n k) && instB (nxS B A O u k - offP B O k * 1000000000))) := hide rfl
          have HNX : Hid (nxS B A O u k = if loS A O k < u + offP B O k * 1000000000 + 1 then u + offP B O k * 1000000000 + 1 else loS A O k) := hide rfl
          have HTA : Hid (taS B O u k = u + offP B O k * 1000000000) := hide rfl
          generalize offP B O k = o at *
          generalize loS A O k = L at *
          generalize hiS A O n k = H at *
          clear hb2
          by_cases p : u + o * 1000000000 + 1 < L
          · have HNX := hide (show nxS B A O u k = L by rw [HNX.out]; split <;> omega)
            by_cases q : L ≤ H
            · have CI := hide (based (Nat.le_refl _) fun V (_ : Below wc.heap.size wc V) => (inside_any (L - o * 1000000000) V).mono fun _ w' (h : _ ∧ V = w') => And.intro h.1 (by rw [← h.2]; exact Below.refl _ _))
              cases hi : instB (L - o * 1000000000) with
              | true =>
                have E := HEQ.out k HS.out (show okG B A O n u k = true by rw [HOG.out, HNX.out, hi]; simpa using q) hlt'
                rw [HNX.out] at E
                subst E
                rw [hi] at CI
                clear hi
                go_wp2_with fail
                with_reducible refine (CO.out _ hbc).mono ?_
                rintro e w3 ⟨rfl, b3⟩
                obtain ⟨m0, m1, m2, n0, n1, _⟩ := HKw.out _ b3
                go_wp2_with fail
                with_reducible refine (CO.out _ b3).mono ?_
                rintro e w4 ⟨rfl, b4⟩
                go_wp2_with fail
                with_reducible refine (CI.out _ b4).mono ?_
                rintro e w5 ⟨rfl, b5⟩
                have HFF := hide (boxB2 (low2 HF.out b5))
                go_wp2
                go_ret2
                exact ⟨rfl, HFF.out⟩
              | false =>
                have M := hide (stk_miss (v := nxS B A O u) HS.out (show okG B A O n u k = false by rw [HOG.out, HNX.out, hi]; simp))
                rw [hi] at CI
                clear hi
                go_wp2_with fail
                with_reducible refine (CO.out _ hbc).mono ?_
                rintro e w3 ⟨rfl, b3⟩
                obtain ⟨m0, m1, m2, n0, n1, _⟩ := HKw.out _ b3
                go_wp2_with fail
                with_reducible refine (CO.out _ b3).mono ?_
                rintro e w4 ⟨rfl, b4⟩
                go_wp2_with fail
                with_reducible refine (CI.out _ b4).mono ?_
                rintro e w5 ⟨rfl, b5⟩
                have HFF := hide (low2 HF.out b5)
                go_wp2
                go_roundw
                case rel => exact ⟨k + 1, by omega, by go_num, M.out, HFF.out⟩
                case measure => simp [intOf]; omega
            · have M := hide (stk_miss (v := nxS B A O u) HS.out (show okG B A O n u k = false by rw [HOG.out, HNX.out, decide_eq_false q]; rfl))
              go_wp2_with fail
              with_reducible refine (CO.out _ hbc).mono ?_
              rintro e w3 ⟨rfl, b3⟩
              obtain ⟨m0, m1, m2, n0, n1, _⟩ := HKw.out _ b3
              have HFF := hide (low2 HF.out b3)
              go_wp2
              go_roundw
              case rel => exact ⟨k + 1, by omega, by go_num, M.out, HFF.out⟩
              case measure => simp [intOf]; omega
          · have HNX := hide (show nxS B A O u k = (u + o * 1000000000 + 1) by rw [HNX.out]; split <;> omega)
            by_cases q : (u + o * 1000000000 + 1) ≤ H
            · have CI := hide (based (Nat.le_refl _) fun V (_ : Below wc.heap.size wc V) => (inside_any ((u + o * 1000000000 + 1) - o * 1000000000) V).mono fun _ w' (h : _ ∧ V = w') => And.intro h.1 (by rw [← h.2]; exact Below.refl _ _))
              cases hi : instB ((u + o * 1000000000 + 1) - o * 1000000000) with
              | true =>
                have E := HEQ.out k HS.out (show okG B A O n u k = true by rw [HOG.out, HNX.out, hi]; simpa using q) hlt'
                rw [HNX.out] at E
                subst E
                rw [hi] at CI
                clear hi
                go_wp2_with fail
                with_reducible refine (CO.out _ hbc).mono ?_
                rintro e w3 ⟨rfl, b3⟩
                obtain ⟨m0, m1, m2, n0, n1, _⟩ := HKw.out _ b3
                go_wp2_with fail
                with_reducible refine (CO.out _ b3).mono ?_
                rintro e w4 ⟨rfl, b4⟩
                go_wp2_with fail
                with_reducible refine (CI.out _ b4).mono ?_
                rintro e w5 ⟨rfl, b5⟩
                have HFF := hide (boxB2 (low2 HF.out b5))
                go_wp2
                go_ret2
                exact ⟨rfl, HFF.out⟩
              | false =>
                have M := hide (stk_miss (v := nxS B A O u) HS.out (show okG B A O n u k = false by rw [HOG.out, HNX.out, hi]; simp))
                rw [hi] at CI
                clear hi
                go_wp2_with fail
                with_reducible refine (CO.out _ hbc).mono ?_
                rintro e w3 ⟨rfl, b3⟩
                obtain ⟨m0, m1, m2, n0, n1, _⟩ := HKw.out _ b3
                go_wp2_with fail
                with_reducible refine (CO.out _ b3).mono ?_
                rintro e w4 ⟨rfl, b4⟩
                go_wp2_with fail
                with_reducible refine (CI.out _ b4).mono ?_
                rintro e w5 ⟨rfl, b5⟩
                have HFF := hide (low2 HF.out b5)
                go_wp2
                go_roundw
                case rel => exact ⟨k + 1, by omega, by go_num, M.out, HFF.out⟩
                case measure => simp [intOf]; omega
            · have M := hide (stk_miss (v := nxS B A O u) HS.out (show okG B A O n u k = false by rw [HOG.out, HNX.out, decide_eq_false q]; rfl))
              go_wp2_with fail
              with_reducible refine (CO.out _ hbc).mono ?_
              rintro e w3 ⟨rfl, b3⟩
              obtain ⟨m0, m1, m2, n0, n1, _⟩ := HKw.out _ b3
              have HFF := hide (low2 HF.out b3)
              go_wp2
              go_roundw
              case rel => exact ⟨k + 1, by omega, by go_num, M.out, HFF.out⟩
              case measure => simp [intOf]; omega
    · have E := HNN.out k (by omega) HS.out
      subst E
      obtain rfl : k = n + 1 := by omega
      go_wp2
      go_ret2
      exact ⟨rfl, hbw⟩
end Go.Proofs.YtnnfaejejnfckaaDoor.Smr
