/- The walk of the law SmearReturns. -/
import Derived.Test.YtnnfaejejnfckaaDoorSmearInverts
import Derived.Test.YtnnfaejejnfckaaDoorQuiet
namespace Go.Proofs.YtnnfaejejnfckaaDoor.Smr
open Go.RowKit Aid Civ Leap
theorem read_at {B X : Int} {A O : Nat → Int} {n : Nat} {K W x u : Int} (hc : chkS B X A O n K W = 0) (hx : instB x = true) (hu : instB u = true) (e : rdT B A O n K W x = u) : readV (chkS B X A O n K W) x (rdT B A O n K W x) = u ∧ readE (chkS B X A O n K W) x (rdT B A O n K W x) = 0 := by
  unfold readV readE
  rw [hc, hx, e, hu]
  simp
theorem returns_step {B X : Int} {A O : Nat → Int} {n : Nat} (T : Tab B X A O n) {t u : Int} (ht : instB t = true) (hu : u = rdT B A O n 1 0 t) : (steT B A O n u).2 = true ∧ instB (steT B A O n u).1 = true ∧ rdT B A O n 1 0 (steT B A O n u).1 = u ∧ (steT B A O n u).1 ≤ t := by
  have SG : Sep (gE A O) 0 n := by
    have := sep_of T (K := 1) (W := 0) (.inl ⟨rfl, rfl⟩) 1
    intro i hi
    have q := this i hi
    rw [frm_step, frm_step] at q
    unfold gE
    omega
  have hG : frm 1 0 A O = gE A O := by funext i; rw [frm_step]; rfl
  rw [step_rd T, hG] at hu
  obtain ⟨hp, h1, h2⟩ := plc_spec (gE A O) t n
  generalize plc (gE A O) t n = p at *
  obtain ⟨t1, t2⟩ := instB_iff.1 ht
  have et : taS B O u p = t := by unfold taS; omega
  have ok : okS B A O n u p = true := by
    unfold okS
    rw [et, Bool.and_eq_true, decide_eq_true_eq, decide_eq_true_eq]
    constructor
    · unfold loS mxI
      split
      · omega
      · have := h1 (by omega); split <;> omega
    · unfold hiS mnI
      split
      · have := h2 p (Nat.le_refl _) (by assumption); split <;> omega
      · omega
  have hs : (stk (okS B A O n u) (taS B O u) (n + 1)).2 = true := by
    cases h : (stk (okS B A O n u) (taS B O u) (n + 1)).2 with
    | true => rfl
    | false => have := stk_all h p (by omega); rw [ok] at this; cases this
  obtain ⟨k, hk, okk, ek, hmin⟩ := stk_ex hs
  have kp : k ≤ p := by
    rcases Nat.lt_or_ge p k with g | g
    · have := hmin p g; rw [ok] at this; cases this
    · exact g
  have e : steT B A O n u = (taS B O u k, true) := by unfold steT; rw [if_pos hs, ek]
  rw [e]
  unfold okS at okk
  rw [Bool.and_eq_true, decide_eq_true_eq, decide_eq_true_eq] at okk
  obtain ⟨o1, o2⟩ := okk
  have lo1 : -8000000000000000000 ≤ loS A O k ∧ (0 < k → gE A O (k - 1) ≤ loS A O k) := by
    unfold loS mxI
    split
    · exact ⟨by omega, fun h => by omega⟩
    · split
      · exact ⟨by omega, fun _ => by omega⟩
      · exact ⟨by omega, fun _ => by omega⟩
  have hi1 : hiS A O n k ≤ 8000000000000000000 ∧ (k < n → hiS A O n k ≤ gE A O k - 1) := by
    unfold hiS mnI
    split
    · split
      · exact ⟨by omega, fun _ => by omega⟩
      · exact ⟨by omega, fun _ => by omega⟩
    · exact ⟨by omega, fun h => absurd h (by assumption)⟩
  have pk : plc (gE A O) (taS B O u k) n = k := plc_eq SG (Int.le_refl _) (by omega) (fun h => by have := lo1.2 h; omega) (fun h => by have := hi1.2 h; omega)
  refine ⟨rfl, instB_iff.2 ⟨by show _ ≤ taS B O u k; omega, by show taS B O u k ≤ _; omega⟩, ?_, ?_⟩
  · rw [step_rd T, hG]
    show taS B O u k - offP B O (plc (gE A O) (taS B O u k) n) * 1000000000 = u
    rw [pk]; unfold taS; omega
  · show taS B O u k ≤ t
    rcases Nat.lt_or_ge k p with g | g
    · have a := hi1.2 (by omega)
      have b := h1 (by omega)
      rcases Nat.lt_or_ge k (p - 1) with g2 | g2
      · have := SG.lt (Int.le_refl _) g2 (by omega); omega
      · obtain rfl : k = p - 1 := by omega
        omega
    · obtain rfl : k = p := by omega
      omega
theorem returns_win {B X : Int} {A O : Nat → Int} {n : Nat} {K W : Int} (T : Tab B X A O n) (hp : KW K W) (hK : K ≠ 1) {t u r : Int} (ht : instB t = true) (hui : instB u = true) (hu : u = rdT B A O n K W t) (hr : CutAt (fun t => u ≤ rdT B A O n K W t) (loW u) (hiW u + 1) r) : (winR (rdT B A O n K W) u r).2 = true ∧ instB r = true ∧ rdT B A O n K W r = u ∧ r ≤ t := by
  have P := pol_of T hp
  have W1 : 1 ≤ W := by unfold KW at hp; omega
  obtain ⟨t1, t2⟩ := instB_iff.1 ht
  have near := rd_near P (.inl W1) T.b T.o t
  change -1000000000000 ≤ t - rdT B A O n K W t ∧ t - rdT B A O n K W t ≤ 1000000000000 at near
  obtain ⟨h1, h2, h3⟩ := hr
  have b := loW_bd (instB_iff.1 hui)
  have c1 : loW u ≤ t := by unfold loW mxI; split <;> omega
  have c2 : t ≤ hiW u := by unfold hiW mnI; split <;> omega
  have r1 := (h3 t c1 (by omega)).1 (by show u ≤ _; omega)
  have r2 : u ≤ rdT B A O n K W r := (h3 r h1 (by omega)).2 (Int.le_refl _)
  have r3 : rdT B A O n K W r ≤ rdT B A O n K W t := rd_mono P W1 r1
  have e : rdT B A O n K W r = u := by omega
  refine ⟨?_, instB_iff.2 ⟨by omega, by omega⟩, e, r1⟩
  show (decide (r ≤ hiW u) && instB (rdT B A O n K W r)) = true
  rw [decide_eq_true (by omega), e, hui]; rfl
theorem kw_one {W : Int} (h : KW 1 W) : W = 0 := by unfold KW at h; omega
set_option maxRecDepth 100000 in
set_option maxHeartbeats 3200000 in
theorem Returns_bad (B X : Int) (a : Option Addr) (n cap : Nat) (A O : Nat → Int) (K W t : Int) (w : World) (hr : Ents w a n A O) (t1 : -9223372036854775808 ≤ t) (t2 : t ≤ 9223372036854775807) (l : Laid w) (h : n ≤ 80) (he : readE (chkS B X A O n K W) t (rdT B A O n K W t) ≠ 0) :
    Calls Tryd.prog 8 #[.agg #[.int .i64 B, .int .i64 X, .slice a n cap], .agg #[.int .i64 K, .int .i64 W], .int .i64 t] w fun e w' => e = .returned (.bool true) ∧ Below w.heap.size w w' := by
  obtain ⟨W0, hW0⟩ : ∃ W0, W0 = (w.alloc (.cells #[.int .i64 B, .int .i64 X, .slice a n cap] 24)).alloc (.cells #[.int .i64 K, .int .i64 W] 26) := ⟨_, rfl⟩
  have HB0 : Hid (Below (w.heap.size + 2) ((w.alloc (.cells #[.int .i64 B, .int .i64 X, .slice a n cap] 24)).alloc (.cells #[.int .i64 K, .int .i64 W] 26)) W0) := hide (by rw [hW0]; exact Below.refl _ _)
  have HH : Hid (W0 = (w.alloc (.cells #[.int .i64 B, .int .i64 X, .slice a n cap] 24)).alloc (.cells #[.int .i64 K, .int .i64 W] 26)) := hide hW0
  have HR := hide (fun V (g : Below W0.heap.size W0 V) => hr.below (boxB2 (low2 HB0.out g)))
  have HK := hide (fun (V : World) (g : Below W0.heap.size W0 V) => by
    obtain ⟨c0, c1, c2, d0, d1, _⟩ := cells5 (low2 HB0.out g)
    exact And.intro c0 (And.intro c1 (And.intro c2 (And.intro d0 (And.intro d1 g)))))
  have HF := hide (fun V (g : Below W0.heap.size W0 V) => boxB2 (low2 HB0.out g))
  have hb0 := Below.refl W0.heap.size W0
  have LL := hide (fun V (g : Below W0.heap.size W0 V) => l.step (HF.out V g))
  have CS := hide (based (Nat.le_refl _) fun V (_ : Below W0.heap.size W0 V) => small_any B X a n cap V _ rfl)
  have CW := hide (based (Nat.le_refl _) fun V (g : Below W0.heap.size W0 V) => awake_any V (LL.out V g))
  have CA := hide (based (Nat.le_refl _) fun V (g : Below W0.heap.size W0 V) => Read_any B X a n cap A O K W t V (LL.out V g) (HR.out V g) ⟨t1, t2⟩)
  rw [decide_eq_true h] at CS
  generalize readV (chkS B X A O n K W) t (rdT B A O n K W t) = x1 at *
  generalize readE (chkS B X A O n K W) t (rdT B A O n K W t) = y1 at *
  have hz : (y1 != 0) = true := by simpa using he
  clear hW0 hr l h he
  go_enter Tryd.func8, Tryd.ntmps8
  go_wp2_with fail
  rw [← HH.out]
  with_reducible refine (CS.out _ hb0).mono ?_
  rintro e w1 ⟨rfl, b1⟩
  obtain ⟨c0, c1, c2, d0, d1, _⟩ := HK.out _ b1
  go_wp2_with fail
  with_reducible refine (CA.out _ b1).mono ?_
  rintro e w2 ⟨rfl, b2⟩
  clear c0 c1 c2 d0 d1
  obtain ⟨c0, c1, c2, d0, d1, _⟩ := HK.out _ b2
  go_wp2_with fail
  with_reducible refine (CW.out _ b2).mono ?_
  rintro e w3 ⟨rfl, b3⟩
  clear c0 c1 c2 d0 d1
  have HFF := hide (HF.out _ b3)
  obtain ⟨c0, c1, c2, d0, d1, _⟩ := HK.out _ b3
  clear b1 b2 b3
  go_wp2
  go_ret
  exact ⟨rfl, HFF.out⟩
set_option maxRecDepth 100000 in
set_option maxHeartbeats 3200000 in
theorem Returns_in (B X : Int) (a : Option Addr) (n cap : Nat) (A O : Nat → Int) (K W t : Int) (w : World) (hr : Ents w a n A O) (t1 : -9223372036854775808 ≤ t) (t2 : t ≤ 9223372036854775807) (l : Laid w) (h : n ≤ 80) (he : readE (chkS B X A O n K W) t (rdT B A O n K W t) = 0) :
    Calls Tryd.prog 8 #[.agg #[.int .i64 B, .int .i64 X, .slice a n cap], .agg #[.int .i64 K, .int .i64 W], .int .i64 t] w fun e w' => e = .returned (.bool true) ∧ Below w.heap.size w w' := by
  obtain ⟨W0, hW0⟩ : ∃ W0, W0 = (w.alloc (.cells #[.int .i64 B, .int .i64 X, .slice a n cap] 24)).alloc (.cells #[.int .i64 K, .int .i64 W] 26) := ⟨_, rfl⟩
  have HB0 : Hid (Below (w.heap.size + 2) ((w.alloc (.cells #[.int .i64 B, .int .i64 X, .slice a n cap] 24)).alloc (.cells #[.int .i64 K, .int .i64 W] 26)) W0) := hide (by rw [hW0]; exact Below.refl _ _)
  have HH : Hid (W0 = (w.alloc (.cells #[.int .i64 B, .int .i64 X, .slice a n cap] 24)).alloc (.cells #[.int .i64 K, .int .i64 W] 26)) := hide hW0
  have HR := hide (fun V (g : Below W0.heap.size W0 V) => hr.below (boxB2 (low2 HB0.out g)))
  have HK := hide (fun (V : World) (g : Below W0.heap.size W0 V) => by
    obtain ⟨c0, c1, c2, d0, d1, _⟩ := cells5 (low2 HB0.out g)
    exact And.intro c0 (And.intro c1 (And.intro c2 (And.intro d0 (And.intro d1 g)))))
  have HF := hide (fun V (g : Below W0.heap.size W0 V) => boxB2 (low2 HB0.out g))
  have hb0 := Below.refl W0.heap.size W0
  have LL := hide (fun V (g : Below W0.heap.size W0 V) => l.step (HF.out V g))
  have CS := hide (based (Nat.le_refl _) fun V (_ : Below W0.heap.size W0 V) => small_any B X a n cap V _ rfl)
  have CW := hide (based (Nat.le_refl _) fun V (g : Below W0.heap.size W0 V) => awake_any V (LL.out V g))
  have CA := hide (based (Nat.le_refl _) fun V (g : Below W0.heap.size W0 V) => Read_any B X a n cap A O K W t V (LL.out V g) (HR.out V g) ⟨t1, t2⟩)
  rw [decide_eq_true h] at CS
  obtain ⟨hc, ht, hui, eu⟩ := readE_ok he
  obtain ⟨T, hp⟩ := chkS_ok hc
  rw [eu, he] at CA
  obtain ⟨u, hu⟩ : ∃ u, u = rdT B A O n K W t := ⟨_, rfl⟩
  rw [← hu] at CA hui
  obtain ⟨x, y, ca, _, hx⟩ := tai_both B X a n cap A O K W u
  obtain ⟨hx1, hx2⟩ := hx hc hui
  have key : y = 0 ∧ instB x = true ∧ rdT B A O n K W x = u ∧ x ≤ t := by
    by_cases hK : K = 1
    · subst hK
      have hW := kw_one hp
      subst hW
      obtain ⟨e1, e2⟩ := hx1 rfl
      obtain ⟨k1, k2, k3, k4⟩ := returns_step T ht hu
      have e3 : taiV 0 u (steT B A O n u) = (steT B A O n u).1 := by unfold taiV; rw [hui, k1]; simp
      have e4 : taiE 0 u (steT B A O n u) = 0 := by unfold taiE; rw [hui, k1]; simp
      rw [e1, e2, e3, e4]
      exact ⟨rfl, k2, k3, k4⟩
    · obtain ⟨r, hr1, e1, e2⟩ := hx2 hK
      obtain ⟨k1, k2, k3, k4⟩ := returns_win T hp hK ht hui hu hr1
      have e3 : taiV 0 u (winR (rdT B A O n K W) u r) = r := by unfold taiV; rw [hui, k1]; simp [winR]
      have e4 : taiE 0 u (winR (rdT B A O n K W) u r) = 0 := by unfold taiE; rw [hui, k1]; simp
      rw [e1, e2, e3, e4]
      exact ⟨rfl, k2, k3, k4⟩
  obtain ⟨rfl, xi, xr, xt⟩ := key
  obtain ⟨g1, g2⟩ := read_at hc xi hui xr
  obtain ⟨x1, x2⟩ := instB_iff.1 xi
  have cb := fun V (g : Below W0.heap.size W0 V) => Read_any B X a n cap A O K W x V (LL.out V g) (HR.out V g) ⟨by omega, by omega⟩
  rw [g1, g2] at cb
  have CB := hide (based (Nat.le_refl _) cb)
  have CT := hide (based (Nat.le_refl _) fun V (g : Below W0.heap.size W0 V) => ca V (LL.out V g) (HR.out V g))
  clear hW0 hr l ca cb hx hx1 hx2 hu eu he hc ht hui T hp xi xr g1 g2 h
  go_enter Tryd.func8, Tryd.ntmps8
  go_wp2_with fail
  rw [← HH.out]
  with_reducible refine (CS.out _ hb0).mono ?_
  rintro e w1 ⟨rfl, b1⟩
  obtain ⟨c0, c1, c2, d0, d1, _⟩ := HK.out _ b1
  go_wp2_with fail
  with_reducible refine (CA.out _ b1).mono ?_
  rintro e w2 ⟨rfl, b2⟩
  clear c0 c1 c2 d0 d1
  obtain ⟨c0, c1, c2, d0, d1, _⟩ := HK.out _ b2
  go_wp2_with fail
  with_reducible refine (CT.out _ b2).mono ?_
  rintro e w3 ⟨rfl, b3⟩
  clear c0 c1 c2 d0 d1
  obtain ⟨c0, c1, c2, d0, d1, _⟩ := HK.out _ b3
  go_wp2_with fail
  with_reducible refine (CB.out _ b3).mono ?_
  rintro e w4 ⟨rfl, b4⟩
  clear c0 c1 c2 d0 d1
  obtain ⟨c0, c1, c2, d0, d1, _⟩ := HK.out _ b4
  go_wp2_with fail
  with_reducible refine (CW.out _ b4).mono ?_
  rintro e w5 ⟨rfl, b5⟩
  clear c0 c1 c2 d0 d1
  have HFF := hide (HF.out _ b5)
  obtain ⟨c0, c1, c2, d0, d1, _⟩ := HK.out _ b5
  clear b1 b2 b3 b4 b5
  go_wp2
  go_ret
  exact ⟨rfl, HFF.out⟩
set_option maxRecDepth 100000 in
set_option maxHeartbeats 3200000 in
theorem Returns_long (B X : Int) (a : Option Addr) (n cap : Nat) (A O : Nat → Int) (K W t : Int) (w : World) (hr : Ents w a n A O) (t1 : -9223372036854775808 ≤ t) (t2 : t ≤ 9223372036854775807) (l : Laid w) (h : ¬ n ≤ 80) :
    Calls Tryd.prog 8 #[.agg #[.int .i64 B, .int .i64 X, .slice a n cap], .agg #[.int .i64 K, .int .i64 W], .int .i64 t] w fun e w' => e = .returned (.bool true) ∧ Below w.heap.size w w' := by
  obtain ⟨W0, hW0⟩ : ∃ W0, W0 = (w.alloc (.cells #[.int .i64 B, .int .i64 X, .slice a n cap] 24)).alloc (.cells #[.int .i64 K, .int .i64 W] 26) := ⟨_, rfl⟩
  have HB0 : Hid (Below (w.heap.size + 2) ((w.alloc (.cells #[.int .i64 B, .int .i64 X, .slice a n cap] 24)).alloc (.cells #[.int .i64 K, .int .i64 W] 26)) W0) := hide (by rw [hW0]; exact Below.refl _ _)
  have HH : Hid (W0 = (w.alloc (.cells #[.int .i64 B, .int .i64 X, .slice a n cap] 24)).alloc (.cells #[.int .i64 K, .int .i64 W] 26)) := hide hW0
  have HR := hide (fun V (g : Below W0.heap.size W0 V) => hr.below (boxB2 (low2 HB0.out g)))
  have HK := hide (fun (V : World) (g : Below W0.heap.size W0 V) => by
    obtain ⟨c0, c1, c2, d0, d1, _⟩ := cells5 (low2 HB0.out g)
    exact And.intro c0 (And.intro c1 (And.intro c2 (And.intro d0 (And.intro d1 g)))))
  have HF := hide (fun V (g : Below W0.heap.size W0 V) => boxB2 (low2 HB0.out g))
  have hb0 := Below.refl W0.heap.size W0
  have LL := hide (fun V (g : Below W0.heap.size W0 V) => l.step (HF.out V g))
  have CS := hide (based (Nat.le_refl _) fun V (_ : Below W0.heap.size W0 V) => small_any B X a n cap V _ rfl)
  have CW := hide (based (Nat.le_refl _) fun V (g : Below W0.heap.size W0 V) => awake_any V (LL.out V g))
  rw [decide_eq_false h] at CS
  clear hW0 hr l h
  go_enter Tryd.func8, Tryd.ntmps8
  go_wp2_with fail
  rw [← HH.out]
  with_reducible refine (CS.out _ hb0).mono ?_
  rintro e w1 ⟨rfl, b1⟩
  obtain ⟨c0, c1, c2, d0, d1, _⟩ := HK.out _ b1
  go_wp2_with fail
  with_reducible refine (CW.out _ b1).mono ?_
  rintro e w2 ⟨rfl, b2⟩
  clear c0 c1 c2 d0 d1
  have HFF := hide (HF.out _ b2)
  obtain ⟨c0, c1, c2, d0, d1, _⟩ := HK.out _ b2
  clear b1 b2
  go_wp2
  go_ret
  exact ⟨rfl, HFF.out⟩
theorem SmearReturns_walk (B X : Int) (a : Option Addr) (n cap : Nat) (A O : Nat → Int) (K W t : Int) (w : World) (hr : Ents w a n A O) (t1 : -9223372036854775808 ≤ t) (t2 : t ≤ 9223372036854775807) (l : Laid w) :
    Calls Tryd.prog 8 #[.agg #[.int .i64 B, .int .i64 X, .slice a n cap], .agg #[.int .i64 K, .int .i64 W], .int .i64 t] w fun e w' => e = .returned (.bool true) ∧ Below w.heap.size w w' := by
  by_cases h : n ≤ 80
  · by_cases he : readE (chkS B X A O n K W) t (rdT B A O n K W t) = 0
    · exact Returns_in B X a n cap A O K W t w hr t1 t2 l h he
    · exact Returns_bad B X a n cap A O K W t w hr t1 t2 l h he
  · exact Returns_long B X a n cap A O K W t w hr t1 t2 l h
end Go.Proofs.YtnnfaejejnfckaaDoor.Smr
