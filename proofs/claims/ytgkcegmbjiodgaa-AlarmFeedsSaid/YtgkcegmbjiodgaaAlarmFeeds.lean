/- The walk of the law AlarmFeeds. -/
import Derived.Test.YtgkcegmbjiodgaaAlmS
namespace Go.Proofs.Ytgkcegmbjiodgaa.AlmW
open Go.RowKit Alm Aid App
theorem RSt.up {w : World} {g base : Nat} {c : Conf} {s : St} {K K' : Nat} (h : RSt w g base c s K) (hk : K ≤ K') : RSt w g base c s K' := by
  obtain ⟨an, v, m, A, V, hr, ho, hi⟩ := h
  exact ⟨an, v, m, A, V, hr, ho, hi.h, hi.l, hi.a, Nat.le_trans hi.k hk⟩
theorem RSt.kept {w w' : World} {g base : Nat} {c : Conf} {s : St} {K : Nat} (h : RSt w g base c s K) {ga : Nat} (hg : w.grownBy w' (some ga)) (h1 : g ≠ ga) (h2 : ga < base) : RSt w' g base c s K := by
  obtain ⟨an, v, m, A, V, hr, ho, hi⟩ := h
  refine ⟨an, v, m, A, V, (hg.block g hr.lt (by simpa using h1)).trans hr, ho.kept hg ?_, hi⟩
  rcases hv : v.ownBlock with _ | b
  · exact .inl rfl
  · refine .inr ?_
    have := (ho.lt b hv).1
    simp
    omega
theorem RSt.lt {w : World} {g base : Nat} {c : Conf} {s : St} {K : Nat} (h : RSt w g base c s K) : g < w.heap.size := by
  obtain ⟨an, v, m, A, V, hr, ho, hi⟩ := h
  exact hr.lt
theorem RFeed_any (g base : Nat) (c : Conf) (s : St) (K : Nat) (at_ u : Int) (w : World) (h : RSt w g base c s K) (hg : g < base) (hb : base ≤ w.heap.size) (hs : Sz s K) (hK : K ≤ 900) :
    Calls Try.prog 16 #[.pointer (some ⟨g, 0, none⟩), .int .i64 at_, .int .i64 u] w (RFed w g base c (feedS c s at_ u) (K + 1) (feedN c s at_ u) (err s at_)) := by
  by_cases he : err s at_ = 0
  · have e1 : feedS c s at_ u = next c s at_ u := by unfold feedS; rw [if_pos he]
    have e2 : feedN c s at_ u = kind c s at_ u := by unfold feedN; rw [if_pos he]
    have hi : 0 ≤ at_ ∧ at_ ≤ 1125899906842624 ∧ s.last ≤ at_ := by
      unfold err at he
      split at he
      · omega
      · split at he <;> omega
    rw [e1, e2, he]
    exact RFeed_fine g base c s K at_ u w h hg hb hs hK hi.1 hi.2.1 hi.2.2
  · have e1 : feedS c s at_ u = s := by unfold feedS; rw [if_neg he]
    have e2 : feedN c s at_ u = 0 := by unfold feedN; rw [if_neg he]
    rw [e1, e2]
    exact (RFeed_err g base c s K at_ u w h he).mono fun e w' q => ⟨q.1, q.2.1, q.2.2.up (by omega)⟩
theorem RCounts_st {g base : Nat} {c : Conf} {s : St} {K : Nat} {w : World} (h : RSt w g base c s K) :
    Calls Try.prog 22 #[.pointer (some ⟨g, 0, none⟩)] w fun e w' => e = .returned (.tuple #[.int .i64 s.raises, .int .i64 s.clears, .int .i64 s.repeats]) ∧ ∃ n, w' = w.drewN n := by
  obtain ⟨an, v, m, A, V, hr, ho, hi⟩ := h
  exact RCounts_any g c s an v w hr
theorem RSince_st {g base : Nat} {c : Conf} {s : St} {K : Nat} {w : World} (h : RSt w g base c s K) :
    Calls Try.prog 18 #[.pointer (some ⟨g, 0, none⟩)] w fun e w' => e = .returned (.tuple #[.int .i64 (if s.raised = true then s.since else 0), .bool s.raised]) ∧ w = w' := by
  obtain ⟨an, v, m, A, V, hr, ho, hi⟩ := h
  exact RSince_any g c s an v w hr
theorem RRaised_st {g base : Nat} {c : Conf} {s : St} {K : Nat} {w : World} (h : RSt w g base c s K) :
    Calls Try.prog 20 #[.pointer (some ⟨g, 0, none⟩)] w fun e w' => e = .returned (.bool s.raised) ∧ w = w' := by
  obtain ⟨an, v, m, A, V, hr, ho, hi⟩ := h
  exact RRaised_any g c s an v w hr
/-- the two alarms as New leaves them -/
def Two (w : World) (c : Conf) (a b : Value) (w' : World) : Prop :=
  ∃ ga gb, a = .pointer (some ⟨ga, 0, none⟩) ∧ b = .pointer (some ⟨gb, 0, none⟩) ∧ w.heap.size + 1 ≤ ga ∧ w.heap.size + 1 ≤ gb ∧ ga ≠ gb ∧ AlmAt w' ga c St.new ∧ RefAt w' gb c St.new false (.slice none 0 0) ∧ Below w.heap.size w w'
set_option maxRecDepth 100000 in
set_option maxHeartbeats 6400000 in
theorem AlarmFeeds_bad (hi lo hold clr sil : Int) (a : Option Addr) (n cap : Nat) (w : World) (hz : chk ⟨hi, lo, hold, clr, sil⟩ ≠ 0) :
    Calls Try.prog 4 #[.agg #[.int .i64 hi, .int .i64 lo, .int .i64 hold, .int .i64 clr, .int .i64 sil], .slice a n cap] w fun e w' => e = .returned (.bool true) ∧ Below w.heap.size w w' := by
  have hB : w.heap.size + 1 ≤ (w.alloc (.cells #[.int .i64 hi, .int .i64 lo, .int .i64 hold, .int .i64 clr, .int .i64 sil] 23)).heap.size := by simp
  obtain ⟨W0, hW0⟩ : ∃ W0, W0 = w.alloc (.cells #[.int .i64 hi, .int .i64 lo, .int .i64 hold, .int .i64 clr, .int .i64 sil] 23) := ⟨_, rfl⟩
  have HH := hide hW0
  have hb0 := Below.refl W0.heap.size W0
  have HB : Hid (Below w.heap.size w W0) := hide (by rw [hW0]; exact (Below.refl _ _).alloc (Nat.le_refl _) _)
  have hs0 : W0.heap.size = w.heap.size + 1 := by rw [hW0]; simp
  have C5 := hide (based (Nat.le_refl _) fun W (_ : Below W0.heap.size W0 W) => awake_any W)
  have CN := hide (based (Nat.le_refl _) fun W (_ : Below W0.heap.size W0 W) => New_bad hi lo hold clr sil W hz)
  have CR := hide (based (Nat.le_refl _) fun W (_ : Below W0.heap.size W0 W) => RNew_bad hi lo hold clr sil W hz)
  have K := hide (fun W (h : Below W0.heap.size W0 W) => conf_cells (w := w) (x0 := .int .i64 hi) (x1 := .int .i64 lo) (x2 := .int .i64 hold) (x3 := .int .i64 clr) (x4 := .int .i64 sil) (T := 23) (W := W) (by rw [hW0] at h; simpa using h))
  clear hz hB hW0
  go_enter Try.func4, Try.ntmps4
  go_wp2_with fail
  rw [← HH.out]
  have hne := lt_some W0
  have y0 := fun V : Lt W0 => (K.out _ V.h).1
  have y1 := fun V : Lt W0 => (K.out _ V.h).2.1
  have y2 := fun V : Lt W0 => (K.out _ V.h).2.2.1
  have y3 := fun V : Lt W0 => (K.out _ V.h).2.2.2.1
  have y4 := fun V : Lt W0 => (K.out _ V.h).2.2.2.2.1
  refine region_lt W0 (by kernel_rfl) (by kernel_rfl) (by assumption) ?_
  repeat (first | go_big_quiet_step (first | (go_at_call 12; with_reducible exact call_lt (CN.out _ (Lt.h _))) | (go_at_call 14; with_reducible exact call_lt (CR.out _ (Lt.h _)))) | quiet_step (first | (go_at_call 12; with_reducible exact call_lt (CN.out _ (Lt.h _))) | (go_at_call 14; with_reducible exact call_lt (CR.out _ (Lt.h _)))))
  refine wpQuiet_nil ?_
  intro _ hw'
  obtain ⟨V, rfl⟩ := hw'
  have bV := V.h
  clear y0 y1 y2 y3 y4 hne hb0
  go_wp2_with fail
  with_reducible refine (C5.out _ bV).mono ?_
  rintro e w4 ⟨rfl, hb4⟩
  have HB4 := hide (HB.out.trans (hb4.mono (by omega)))
  clear hb4 bV
  go_wp2
  go_ret
  exact ⟨rfl, HB4.out⟩
theorem kp_fin {S : Nat → Prop} {a b c : World} (h : Below a.heap.size a b) (k : Kp S b.heap.size b c) (hs : ∀ q, S q → a.heap.size ≤ q) : Below a.heap.size a c :=
  ⟨k.os.trans h.os, k.tape.trans h.tape, k.output.trans h.output, Nat.le_trans h.size k.size, fun i hi => (k.block i (by have := h.size; omega) (fun q => by have := hs i q; omega)).trans (h.block i hi)⟩
theorem alm_by {w w' : World} {g : Nat} {c : Conf} {s : St} (hb : Below w.heap.size w w') (h : AlmAt w g c s) : AlmAt w' g c s := (hb.block g h.lt).trans h
theorem ref_by {w w' : World} {g : Nat} {c : Conf} {s : St} {an : Bool} {v : Value} (hb : Below w.heap.size w w') (h : RefAt w g c s an v) : RefAt w' g c s an v := (hb.block g h.lt).trans h
set_option maxRecDepth 100000 in
set_option maxHeartbeats 12800000 in
theorem AlarmFeeds_main (hi lo hold clr sil : Int) (a : Option Addr) (n cap : Nat) (A V : Nat → Int) (w : World) (hs : SampAt w a n A V) (hz : chk ⟨hi, lo, hold, clr, sil⟩ = 0) :
    Calls Try.prog 4 #[.agg #[.int .i64 hi, .int .i64 lo, .int .i64 hold, .int .i64 clr, .int .i64 sil], .slice a n cap] w fun e w' => e = .returned (.bool true) ∧ Below w.heap.size w w' := by
  have hB : w.heap.size + 1 ≤ (w.alloc (.cells #[.int .i64 hi, .int .i64 lo, .int .i64 hold, .int .i64 clr, .int .i64 sil] 23)).heap.size := by simp
  obtain ⟨W0, hW0⟩ : ∃ W0, W0 = w.alloc (.cells #[.int .i64 hi, .int .i64 lo, .int .i64 hold, .int .i64 clr, .int .i64 sil] 23) := ⟨_, rfl⟩
  have HH := hide hW0
  have hb0 := (Below.refl W0.heap.size W0).drew
  have HB : Hid (Below w.heap.size w W0) := hide (by rw [hW0]; exact (Below.refl _ _).alloc (Nat.le_refl _) _)
  have hs0 : W0.heap.size = w.heap.size + 1 := by rw [hW0]; simp
  have C5 := hide awake_any
  have CN := hide (fun W (g : Below W0.heap.size W0 W) => (New_ok hi lo hold clr sil W hz).mono (R' := fun e w' => ∃ ga, e = .returned (.pointer (some ⟨ga, 0, none⟩)) ∧ W0.heap.size ≤ ga ∧ W.heap.size ≤ ga ∧ ga < w'.heap.size ∧ AlmAt w' ga ⟨hi, lo, hold, clr, sil⟩ St.new ∧ Below W.heap.size W w' ∧ Below W0.heap.size W0 w') fun e w' ⟨ga, q1, q2, q3, q4⟩ => ⟨ga, q1, Nat.le_trans g.size q2, q2, q3.lt, q3, q4, g.trans (q4.mono g.size)⟩)
  have CR := hide (fun W (g : Below W0.heap.size W0 W) => (RNew_ok hi lo hold clr sil W hz).mono (R' := fun e w' => ∃ ga, e = .returned (.pointer (some ⟨ga, 0, none⟩)) ∧ W0.heap.size ≤ ga ∧ W.heap.size ≤ ga ∧ ga < w'.heap.size ∧ RefAt w' ga ⟨hi, lo, hold, clr, sil⟩ St.new false (.slice none 0 0) ∧ Below W.heap.size W w' ∧ Below W0.heap.size W0 w') fun e w' ⟨ga, q1, q2, q3, q4⟩ => ⟨ga, q1, Nat.le_trans g.size q2, q2, q3.lt, q3, q4, g.trans (q4.mono g.size)⟩)
  have K := hide (fun W (h : Below W0.heap.size W0 W) => conf_cells (w := w) (x0 := .int .i64 hi) (x1 := .int .i64 lo) (x2 := .int .i64 hold) (x3 := .int .i64 clr) (x4 := .int .i64 sil) (T := 23) (W := W) (by rw [hW0] at h; simpa using h))
  have hn63 := hs.1
  have HS := hide hs
  generalize hc : (⟨hi, lo, hold, clr, sil⟩ : Conf) = c at *
  clear hz hB hW0 hs hc
  go_enter Try.func4, Try.ntmps4
  go_upto_region 1 with fail
  rw [← HH.out]
  go_cut [5, 6] (fun x y wx => Two w c x y wx)
  case first =>
    go_region_held3 (fun W => W.cell? ⟨w.heap.size, 0, none⟩ = some (.int .i64 hi) ∧ W.cell? ⟨w.heap.size, 1, none⟩ = some (.int .i64 lo) ∧ W.cell? ⟨w.heap.size, 2, none⟩ = some (.int .i64 hold) ∧ W.cell? ⟨w.heap.size, 3, none⟩ = some (.int .i64 clr) ∧ W.cell? ⟨w.heap.size, 4, none⟩ = some (.int .i64 sil))
      (first | (have q := K.out _ (by assumption); exact ⟨q.1, q.2.1, q.2.2.1, q.2.2.2.1, q.2.2.2.2.1⟩))
      (first | (go_at_call 12; with_reducible refine (CN.out _ (by assumption)).mono ?_; rintro e wa ⟨ga, rfl, hga0, hga, hza, haa, hba, hya⟩)
             | (go_at_call 14; with_reducible refine (CR.out _ (by assumption)).mono ?_; rintro e wb ⟨gb, rfl, hgb0, hgb, hzb, hab, hbb, hyb⟩))
    all_goals
      go_wp2_with fail
      go_meet
      first
        | exact ⟨ga, gb, rfl, rfl, by omega, by omega, by omega, alm_by hbb haa, hab, HB.out.trans (hyb.mono (by omega))⟩
        | exact ⟨ga, gb, rfl, rfl, by omega, by omega, by omega, haa, ref_by hba hab, HB.out.trans (hya.mono (by omega))⟩
  obtain ⟨ga, gb, hc1, hc2, hga, hgb, hne, ha, hr, hb⟩ := hcut
  subst hc1
  subst hc2
  clear HH hb0 K CN CR
  have hga2 := ha.lt
  have hgb2 := hr.lt
  have HA := hide ha
  have HR := hide (RSt.new (base := wc.heap.size) hr)
  have HBC := hide hb
  clear ha hr hb HB
  by_cases hn : n ≤ 200
  · have hn2 : (n : Int) ≤ 200 := by omega
    have HCELL : Hid (∀ k, k < n → ∃ b off, a = some ⟨b, off, none⟩ ∧ ∀ W, Kp (fun x => x = ga ∨ x = gb) wc.heap.size wc W → W.cell? ⟨b, off + k * 2, none⟩ = some (.int .i64 (A k)) ∧ W.cell? ⟨b, off + k * 2 + 1, none⟩ = some (.int .i64 (V k))) := hide fun k hk => by
      obtain ⟨b, off, h1, h2, h3⟩ := HS.out.2 (by omega)
      have := HBC.out.size
      refine ⟨b, off, h1, fun W h => ⟨(h.cell (by omega) (by omega)).trans ((HBC.out.cell (p := ⟨b, _, none⟩) h2).trans (h3 k hk).1), (h.cell (by omega) (by omega)).trans ((HBC.out.cell (p := ⟨b, _, none⟩) h2).trans (h3 k hk).2)⟩⟩
    go_wp2_with fail
    go_loopw [7] (fun i wr => ∃ k : Nat, k ≤ n ∧ i = .int .i64 k ∧ Kp (fun x => x = ga ∨ x = gb) wc.heap.size wc wr ∧ AlmAt wr ga c (runS c A V k) ∧ RSt wr gb wc.heap.size c (runS c A V k) k) (fun i _ => n - (intOf i).toNat)
    case atStart => exact ⟨0, by omega, rfl, Kp.refl _ _ _, HA.out, HR.out⟩
    case round =>
      clear HA HR
      obtain ⟨k, hk, rfl, hkp, ha, hr⟩ := hrel
      have z := run_z c A V k
      by_cases hlt : k < n
      · obtain ⟨b, off, rfl, hcell⟩ := HCELL.out k hlt
        have hlt2 : (k : Int) < (n : Int) := by omega
        have F1 := Feed_any ga c (runS c A V k) k (A k) (V k) wr.drew ha z (by omega)
        have F2 := fun W (h : RSt W gb wc.heap.size c (runS c A V k) k) (q : wc.heap.size ≤ W.heap.size) => RFeed_any gb wc.heap.size c (runS c A V k) k (A k) (V k) W h (by omega) q z (by omega)
        rw [show feedS c (runS c A V k) (A k) (V k) = runS c A V (k + 1) from rfl] at F1 F2
        have CS := And.intro (fun W (h : AlmAt W ga c (runS c A V (k + 1))) => Since_any ga c (runS c A V (k + 1)) W h) (And.intro (fun W (h : AlmAt W ga c (runS c A V (k + 1))) => Raised_any ga c (runS c A V (k + 1)) W h)
          (And.intro (fun W (h : RSt W gb wc.heap.size c (runS c A V (k + 1)) (k + 1)) => RSince_st h) (fun W (h : RSt W gb wc.heap.size c (runS c A V (k + 1)) (k + 1)) => RRaised_st h)))
        have HCS : ∃ sv rb, Hid ((∀ W, AlmAt W ga c (runS c A V (k + 1)) → Calls Try.prog 17 #[.pointer (some ⟨ga, 0, none⟩)] W fun e w' => e = .returned (.tuple #[.int .i64 sv, .bool rb]) ∧ W = w') ∧
            (∀ W, AlmAt W ga c (runS c A V (k + 1)) → Calls Try.prog 19 #[.pointer (some ⟨ga, 0, none⟩)] W fun e w' => e = .returned (.bool rb) ∧ W = w') ∧
            (∀ W, RSt W gb wc.heap.size c (runS c A V (k + 1)) (k + 1) → Calls Try.prog 18 #[.pointer (some ⟨gb, 0, none⟩)] W fun e w' => e = .returned (.tuple #[.int .i64 sv, .bool rb]) ∧ W = w') ∧
            (∀ W, RSt W gb wc.heap.size c (runS c A V (k + 1)) (k + 1) → Calls Try.prog 20 #[.pointer (some ⟨gb, 0, none⟩)] W fun e w' => e = .returned (.bool rb) ∧ W = w')) := ⟨_, _, hide CS⟩
        obtain ⟨sv, rb, HCS⟩ := HCS
        generalize feedN c (runS c A V k) (A k) (V k) = N at F1 F2
        generalize err (runS c A V k) (A k) = E at F1 F2
        have HF1 := hide F1
        have HF2 := hide F2
        have HR := hide hr
        have HKP := hide hkp
        have HCE := hide hcell
        obtain ⟨c0, c1⟩ := hcell wr hkp
        have hkd := hkp.drew
        clear F1 F2 CS z ha hr hkp hcell
        go_wp2
        go_region_held3 (fun W => W.cell? ⟨b, off + k * 2, none⟩ = some (.int .i64 (A k)) ∧ W.cell? ⟨b, off + k * 2 + 1, none⟩ = some (.int .i64 (V k))) (first | exact HCE.out _ (by assumption) | exact ⟨c0, c1⟩)
          (first | (go_at_call 15; refine HF1.out.mono ?_; rintro e w1 ⟨rfl, hg1, ha1⟩; have hr1 : RSt w1 gb wc.heap.size c (runS c A V k) k := RSt.kept (w := wr.drew) HR.out hg1 (by omega) (by omega); have hk1 : Kp (fun x => x = ga ∨ x = gb) wc.heap.size wc w1 := HKP.out.drew.grown hg1 (by exact HKP.out.size) (by intro g q; cases q; exact .inl (.inl rfl)); clear hg1))
        have HA1 := hide ha1
        have HR1 := hide hr1
        have HK1 := hide hk1
        have hs1 : wc.heap.size ≤ w1.drew.heap.size := HK1.out.size
        have HF3 := hide (HF2.out w1.drew HR1.out hs1)
        obtain ⟨c0', c1'⟩ := HCE.out w1 hk1
        have hkd1 := hk1.drew
        clear ha1 hr1 hk1 c0 c1 hkd HF1 HF2 HR HKP
        go_wp2
        go_region_held3 (fun W => W.cell? ⟨b, off + k * 2, none⟩ = some (.int .i64 (A k)) ∧ W.cell? ⟨b, off + k * 2 + 1, none⟩ = some (.int .i64 (V k))) (first | exact HCE.out _ (by assumption) | exact ⟨c0', c1'⟩)
          (first | (go_at_call 16; refine HF3.out.mono ?_; rintro e w2 ⟨rfl, hk2', hr2⟩; have ha2 : AlmAt w2 ga c (runS c A V (k + 1)) := (hk2'.block ga (by omega) (by omega)).trans HA1.out; have hk2 : Kp (fun x => x = ga ∨ x = gb) wc.heap.size wc w2 := HK1.out.drew.trans (hk2'.sub fun _ q => .inr q); clear hk2'))
        have HA2 := hide ha2
        have HR2 := hide hr2
        have HK2 := hide hk2
        clear ha2 hr2 hk2 c0' c1' hkd1 HF3 HA1 HR1 HK1 HCE hs1
        go_wp2_with (first | (go_at_call 17; refine ((HCS.out.1 _ (by exact HA2.out)).mono ?_); rintro e w'' ⟨rfl, rfl⟩) | (go_at_call 19; refine ((HCS.out.2.1 _ (by exact HA2.out)).mono ?_); rintro e w'' ⟨rfl, rfl⟩) | (go_at_call 18; refine ((HCS.out.2.2.1 _ (by exact HR2.out)).mono ?_); rintro e w'' ⟨rfl, rfl⟩) | (go_at_call 20; refine ((HCS.out.2.2.2 _ (by exact HR2.out)).mono ?_); rintro e w'' ⟨rfl, rfl⟩))
        go_roundw
        case rel => exact ⟨k + 1, by omega, by go_num, HK2.out, HA2.out, HR2.out⟩
        case measure => (simp [intOf]) <;> omega
      · obtain rfl : k = n := by omega
        have C1 := Counts_any ga c (runS c A V k) wr ha
        have C2 := fun W (h : RSt W gb wc.heap.size c (runS c A V k) k) => RCounts_st h
        generalize (runS c A V k).raises = x at C1 C2
        generalize (runS c A V k).clears = y at C1 C2
        generalize (runS c A V k).repeats = u at C1 C2
        have HC1 := hide C1
        have HC2 := hide C2
        have HK := hide hkp
        have HR := hide hr
        clear C1 C2 hkp hr z ha HCELL
        go_wp2_with fail
        refine HC1.out.mono ?_
        rintro e _ ⟨rfl, nq, rfl⟩
        go_wp2_with fail
        refine (HC2.out _ (show RSt (wr.drewN nq) gb wc.heap.size c (runS c A V k) k from HR.out)).mono ?_
        rintro e _ ⟨rfl, nr, rfl⟩
        go_wp2_with fail
        refine (C5.out _).mono ?_
        rintro e w5 ⟨rfl, hb5⟩
        have hfin : Below w.heap.size w w5 := (kp_fin HBC.out (HK.out.drewN (nq + nr)) (by intro q hq; have := HBC.out.size; omega)).trans (hb5.mono (Nat.le_trans HBC.out.size HK.out.size))
        go_wp2
        go_ret
        exact ⟨rfl, hfin⟩
  · have hn2 : 200 < (n : Int) := by omega
    clear HA HR HS
    go_wp2_with fail
    refine (C5.out _).mono ?_
    rintro e w5 ⟨rfl, hb5⟩
    have HB5 := hide (HBC.out.trans (hb5.mono HBC.out.size))
    clear hb5
    go_wp2
    go_ret
    exact ⟨rfl, HB5.out⟩
theorem AlarmFeeds_walk (hi lo hold clr sil : Int) (a : Option Addr) (n cap : Nat) (A V : Nat → Int) (w : World) (hs : SampAt w a n A V) :
    Calls Try.prog 4 #[.agg #[.int .i64 hi, .int .i64 lo, .int .i64 hold, .int .i64 clr, .int .i64 sil], .slice a n cap] w fun e w' => e = .returned (.bool true) ∧ Below w.heap.size w w' := by
  by_cases hz : chk ⟨hi, lo, hold, clr, sil⟩ = 0
  · exact AlarmFeeds_main hi lo hold clr sil a n cap A V w hs hz
  · exact AlarmFeeds_bad hi lo hold clr sil a n cap w hz
end Go.Proofs.Ytgkcegmbjiodgaa.AlmW
