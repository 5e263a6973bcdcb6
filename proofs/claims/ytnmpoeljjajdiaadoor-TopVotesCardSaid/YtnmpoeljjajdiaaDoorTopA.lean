
/- The contracts of layer 6: offset, change, UTC, TAI. -/
import Derived.Test.YtnmpoeljjajdiaaDoorLeapD
import Derived.Test.YtnmpoeljjajdiaaDoorSmrTab
namespace Go.Proofs.YtnmpoeljjajdiaaDoor.Leap
open Go.RowKit Aid Civ Smr
def gS (A O : Nat → Int) (i : Nat) : Int := A i + O i
theorem Sub_any (a b : Int) (w : World) (ha : -7000000000 ≤ a ∧ a ≤ 7000000000) (hb : -1000 ≤ b ∧ b ≤ 1000) :
    Calls Tryd.prog 22 #[.int .i64 a, .int .i64 b] w fun e w' => e = .returned (.tuple #[.int .i64 (a - b), .bool true]) ∧ w = w' := by
  obtain ⟨a1, a2⟩ := ha
  obtain ⟨b1, b2⟩ := hb
  obtain ⟨c, hc⟩ : ∃ c, a - b = c := ⟨_, rfl⟩
  rw [hc]
  have h : ((decide (a < 0) != decide (b < 0)) && (decide (c < 0) != decide (a < 0))) = false := by
    by_cases h1 : a < 0 <;> by_cases h2 : b < 0 <;> by_cases h3 : c < 0 <;> simp [h1, h2, h3] <;> omega
  by_cases h1 : a < 0
  · by_cases h2 : b < 0
    · go_enter Tryd.func22, Tryd.ntmps22
      go_wp2
      go_ret2
      exact ⟨rfl, by first | rfl | trivial⟩
    · have h3 : c < 0 := by omega
      go_enter Tryd.func22, Tryd.ntmps22
      go_wp2
      go_ret2
      exact ⟨rfl, by first | rfl | trivial⟩
  · by_cases h2 : b < 0
    · have h3 : ¬ c < 0 := by omega
      go_enter Tryd.func22, Tryd.ntmps22
      go_wp2
      go_ret2
      exact ⟨rfl, by first | rfl | trivial⟩
    · go_enter Tryd.func22, Tryd.ntmps22
      go_wp2
      go_ret2
      exact ⟨rfl, by first | rfl | trivial⟩
set_option maxRecDepth 100000 in
set_option maxHeartbeats 1600000 in
theorem offset_any (B X : Int) (a : Option Addr) (n cap : Nat) (A O : Nat → Int) (u : Int) (w : World) (hr : Ents w a n A O) :
    Calls Tryd.prog 25 #[.agg #[.int .i64 B, .int .i64 X, .slice a n cap], .int .i64 u] w fun e w' => e = .returned (.int .i64 (offP B O (plc A u n))) ∧ Below w.heap.size w w' := by
  have hn := hr.1
  have HR := hide hr
  clear hr
  go_enter Tryd.func25, Tryd.ntmps25
  go_wp2
  go_loopw [5, 13] (fun o i wr => ∃ k : Nat, k ≤ n ∧ i = .int .i64 k ∧ o = .int .i64 (offP B O (plc A u k)) ∧ Below (w.heap.size + 1) (w.alloc (.cells #[.int .i64 B, .int .i64 X, .slice a n cap] 24)) wr) (fun _ i _ => n - (intOf i).toNat)
  case atStart => exact ⟨0, by omega, rfl, by simp [plc, offP], Below.refl _ _⟩
  case round =>
    obtain ⟨k, hk, rfl, rfl, hb⟩ := hrel
    have HB := hide hb
    obtain ⟨c0, c1, c2, hs⟩ := cells3 hb
    have hbw := boxB hb
    clear hb
    by_cases hlt' : k < n
    · obtain ⟨b, off, rfl, hlt, hc⟩ := HR.out.at_ (by omega)
      have hc0 : wr.cell? ⟨b, off + k * 2, none⟩ = some (.int .i64 (A k)) := (hbw.cell (p := ⟨b, off + k * 2, none⟩) hlt).trans (hc k hlt').1
      have hc1 : wr.cell? ⟨b, off + k * 2 + 1, none⟩ = some (.int .i64 (O k)) := (hbw.cell (p := ⟨b, off + k * 2 + 1, none⟩) hlt).trans (hc k hlt').2
      have hbl : b < wr.heap.size := by omega
      have HP : Hid (plc A u (k + 1) = if A k ≤ u then k + 1 else plc A u k) := hide rfl
      have HB2 := hide (HB.out.alloc (by omega) (.cells #[.int .i64 (A k), .int .i64 (O k)] 44))
      clear hc hbw hlt
      by_cases hle : A k ≤ u
      · go_wp2
        go_roundw
        case rel => exact ⟨k + 1, by omega, by go_num, by rw [HP.out, if_pos hle, offP_succ], HB2.out⟩
        case measure => simp [intOf]; omega
      · go_wp2
        go_roundw
        case rel => exact ⟨k + 1, by omega, by go_num, by rw [HP.out, if_neg (by omega)], HB2.out⟩
        case measure => simp [intOf]; omega
    · obtain rfl : k = n := by omega
      go_wp2
      go_ret
      exact ⟨rfl, hbw⟩
set_option maxRecDepth 100000 in
set_option maxHeartbeats 1600000 in
theorem change_any (B X : Int) (a : Option Addr) (n cap : Nat) (A O : Nat → Int) (u x : Int) (w : World) (hr : Ents w a n A O) (T : Tab B X A O n) (h0 : (∀ j, j < n → A j ≠ u) → x = 0) (h1 : ∀ j, j < n → A j = u → x = O j - oldO B O j) :
    Calls Tryd.prog 24 #[.agg #[.int .i64 B, .int .i64 X, .slice a n cap], .int .i64 u] w fun e w' => e = .returned (.int .i64 x) ∧ Below w.heap.size w w' := by
  have hn := hr.1
  have HR := hide hr
  have HT := hide T
  have H0 := hide h0
  have H1 := hide h1
  clear hr T h0 h1
  go_enter Tryd.func24, Tryd.ntmps24
  go_wp2
  go_loopw [10] (fun i wr => ∃ k : Nat, k ≤ n ∧ i = .int .i64 k ∧ (∀ j, j < k → A j ≠ u) ∧ Below (w.heap.size + 1) (w.alloc (.cells #[.int .i64 B, .int .i64 X, .slice a n cap] 24)) wr) (fun i _ => n - (intOf i).toNat)
  case atStart => exact ⟨0, by omega, rfl, fun j hj => by omega, Below.refl _ _⟩
  case round =>
    obtain ⟨k, hk, rfl, hne, hb⟩ := hrel
    have HNE := hide hne
    have HB := hide hb
    obtain ⟨c0, c1, c2, hs⟩ := cells3 hb
    have hbw := boxB hb
    clear hb hne
    by_cases hlt' : k < n
    · obtain ⟨b, off, rfl, hlt, hc⟩ := HR.out.at_ (by omega)
      have hc0 : wr.cell? ⟨b, off + k * 2, none⟩ = some (.int .i64 (A k)) := (hbw.cell (p := ⟨b, off + k * 2, none⟩) hlt).trans (hc k hlt').1
      have hc1 : wr.cell? ⟨b, off + k * 2 + 1, none⟩ = some (.int .i64 (O k)) := (hbw.cell (p := ⟨b, off + k * 2 + 1, none⟩) hlt).trans (hc k hlt').2
      have hbl : b < wr.heap.size := by omega
      have HB2 := hide (HB.out.alloc (by omega) (.cells #[.int .i64 (A k), .int .i64 (O k)] 44))
      clear hc hbw hlt
      by_cases hle : A k = u
      · have he : (A k == u) = true := by simpa using hle
        have hx := H1.out k hlt' hle
        have CS := hide (step_any B X (some ⟨b, off, none⟩) n cap A O k (wr.alloc (.cells #[.int .i64 (A k), .int .i64 (O k)] 44)) (HR.out.below (boxB HB2.out)) hlt' HT.out.b HT.out.o)
        rw [← hx] at CS
        have HBB := hide (boxB HB2.out)
        clear hx hle
        go_wp2_with fail
        with_reducible refine CS.out.mono ?_
        rintro e w2 ⟨rfl, h2⟩
        have HF := hide (HBB.out.trans (h2.mono HBB.out.size))
        clear h2
        go_wp2
        go_ret
        exact ⟨rfl, HF.out⟩
      · have he : (A k == u) = false := by simpa using hle
        have HX : Hid (∀ j, j < k + 1 → A j ≠ u) := hide (fun j hj => by
          rcases Nat.lt_or_ge j k with g | g
          · exact HNE.out j g
          · obtain rfl : j = k := by omega
            exact hle)
        clear hle
        go_wp2
        go_roundw
        case rel => exact ⟨k + 1, by omega, by go_num, HX.out, HB2.out⟩
        case measure => simp [intOf]; omega
    · obtain rfl : k = n := by omega
      have hx := H0.out HNE.out
      subst hx
      go_wp2
      go_ret
      exact ⟨rfl, hbw⟩
def exB (B : Int) (A O : Nat → Int) (t : Int) : Nat → Bool
  | 0 => false
  | k + 1 => exB B A O t k || (decide (t = gS A O k - 1) && decide (O k - oldO B O k = 1))
set_option maxRecDepth 100000 in
set_option maxHeartbeats 3200000 in
theorem UTC_any (B X : Int) (a : Option Addr) (n cap : Nat) (A O : Nat → Int) (t u : Int) (ex : Bool) (w : World) (l : Laid w) (hr : Ents w a n A O) (hc0 : chkT B X A O n = 0) (ht : -7000000000 ≤ t ∧ t ≤ 7000000000) (hex : exB B A O t n = ex) (hu : u = t - offP B O (plc (gS A O) t n) - (if ex = true then 1 else 0)) :
    Calls Tryd.prog 7 #[.agg #[.int .i64 B, .int .i64 X, .slice a n cap], .int .i64 t] w fun e w' => e = .returned (.tuple #[.int .i64 u, .bool ex, .int .i64 0]) ∧ Below w.heap.size w w' := by
  have hn := hr.1
  have T := chkT_ok hc0
  have CC := Check_any B X a n cap A O (w.alloc (.cells #[.int .i64 B, .int .i64 X, .slice a n cap] 24)) (l.step ((Below.refl _ _).alloc (Nat.le_refl _) _)) (hr.below ((Below.refl _ _).alloc (Nat.le_refl _) _))
  rw [hc0] at CC
  have C1 := hide CC
  have HT := hide T
  have HR := hide hr
  have HEX := hide hex
  have HU := hide hu
  obtain ⟨t1, t2⟩ := ht
  have n64 := T.n64
  have LB := hide (fun V (g : Below (w.alloc (.cells #[.int .i64 B, .int .i64 X, .slice a n cap] 24)).heap.size (w.alloc (.cells #[.int .i64 B, .int .i64 X, .slice a n cap] 24)) V) => g.mono (show w.heap.size + 1 ≤ _ by simp))
  clear hr T hc0 hex hu l CC
  go_enter Tryd.func7, Tryd.ntmps7
  go_wp2_with fail
  with_reducible refine C1.out.mono ?_
  rintro e w1 ⟨rfl, h1⟩
  have H1 := hide (LB.out _ h1)
  obtain ⟨c0, c1, c2, hs⟩ := cells3 H1.out
  clear h1
  go_wp2
  go_loopw [8, 9, 25] (fun o x i wr => ∃ k : Nat, k ≤ n ∧ i = .int .i64 k ∧ o = .int .i64 (offP B O (plc (gS A O) t k)) ∧ x = .bool (exB B A O t k) ∧ Below (w.heap.size + 1) (w.alloc (.cells #[.int .i64 B, .int .i64 X, .slice a n cap] 24)) wr) (fun _ _ i _ => n - (intOf i).toNat)
  case atStart => exact ⟨0, by omega, rfl, by simp [plc, offP], rfl, H1.out⟩
  case round =>
    clear c0 c1 c2 hs
    obtain ⟨k, hk, rfl, rfl, rfl, hb⟩ := hrel
    have HB := hide hb
    obtain ⟨c0, c1, c2, hs⟩ := cells3 hb
    have hbw := boxB hb
    clear hb
    by_cases hlt' : k < n
    · obtain ⟨b, off, rfl, hlt, hc⟩ := HR.out.at_ (by omega)
      have hc0 : wr.cell? ⟨b, off + k * 2, none⟩ = some (.int .i64 (A k)) := (hbw.cell (p := ⟨b, off + k * 2, none⟩) hlt).trans (hc k hlt').1
      have hc1 : wr.cell? ⟨b, off + k * 2 + 1, none⟩ = some (.int .i64 (O k)) := (hbw.cell (p := ⟨b, off + k * 2 + 1, none⟩) hlt).trans (hc k hlt').2
      have hbl : b < wr.heap.size := by omega
      have HP : Hid (plc (gS A O) t (k + 1) = if A k + O k ≤ t then k + 1 else plc (gS A O) t k) := hide rfl
      have HX : Hid (exB B A O t (k + 1) = (exB B A O t k || (decide (t = A k + O k - 1) && decide (O k - oldO B O k = 1)))) := hide rfl
      have HB2 := hide (HB.out.alloc (by omega) (.cells #[.int .i64 (A k), .int .i64 (O k)] 44))
      have CS := hide (step_any B X (some ⟨b, off, none⟩) n cap A O k (wr.alloc (.cells #[.int .i64 (A k), .int .i64 (O k)] 44)) (HR.out.below (boxB HB2.out)) hlt' HT.out.b HT.out.o)
      obtain ⟨a1, a2⟩ := HT.out.a k hlt'
      obtain ⟨o1, o2⟩ := HT.out.o k hlt'
      generalize O k - oldO B O k = st at *
      generalize hov : offP B O (plc (gS A O) t k) = ov at *
      have HOV := hide hov
      clear hov
      generalize exB B A O t k = xv at *
      clear hc hbw hlt
      by_cases hle : A k + O k ≤ t
      · have hne : (t == A k + O k - 1) = false := by simp; omega
        have HD : Hid (exB B A O t (k + 1) = xv) := hide (by rw [HX.out, decide_eq_false (by omega)]; simp)
        have HQ : Hid (offP B O (plc (gS A O) t (k + 1)) = O k) := hide (by rw [HP.out, if_pos hle, offP_succ])
        go_wp2
        go_roundw
        case rel => exact ⟨k + 1, by omega, by go_num, by rw [HQ.out], by rw [HD.out], HB2.out⟩
        case measure => simp [intOf]; omega
      · have HQ : Hid (plc (gS A O) t (k + 1) = plc (gS A O) t k) := hide (by rw [HP.out, if_neg hle])
        by_cases hq : t = A k + O k - 1
        · have hqe : (t == A k + O k - 1) = true := by simpa using hq
          by_cases hst : st = 1
          · have HD : Hid (exB B A O t (k + 1) = true) := hide (by rw [HX.out, decide_eq_true hq, decide_eq_true hst]; simp)
            subst hst
            clear hq
            go_wp2_with fail
            with_reducible refine CS.out.mono ?_
            rintro e w2 ⟨rfl, h2⟩
            have HB3 := hide (HB2.out.trans (h2.mono (by have := HB2.out.size; simp at this ⊢; omega)))
            clear h2
            go_wp2
            go_roundw
            case rel => exact ⟨k + 1, by omega, by go_num, by rw [HQ.out, HOV.out], by rw [HD.out], HB3.out⟩
            case measure => simp [intOf]; omega
          · have HD : Hid (exB B A O t (k + 1) = xv) := hide (by rw [HX.out, decide_eq_false hst]; simp)
            have hse : (st == 1) = false := by simpa using hst
            clear hq hst
            go_wp2_with fail
            with_reducible refine CS.out.mono ?_
            rintro e w2 ⟨rfl, h2⟩
            have HB3 := hide (HB2.out.trans (h2.mono (by have := HB2.out.size; simp at this ⊢; omega)))
            clear h2
            go_wp2
            go_roundw
            case rel => exact ⟨k + 1, by omega, by go_num, by rw [HQ.out, HOV.out], by rw [HD.out], HB3.out⟩
            case measure => simp [intOf]; omega
        · have hqe : (t == A k + O k - 1) = false := by simpa using hq
          have HD : Hid (exB B A O t (k + 1) = xv) := hide (by rw [HX.out, decide_eq_false hq]; simp)
          clear hq
          go_wp2
          go_roundw
          case rel => exact ⟨k + 1, by omega, by go_num, by rw [HQ.out, HOV.out], by rw [HD.out], HB2.out⟩
          case measure => simp [intOf]; omega
    · obtain rfl : k = n := by omega
      have hob := offP_bd HT.out.b HT.out.o (plc_spec (gS A O) t k).1
      have CB := hide fun V => Sub_any t (offP B O (plc (gS A O) t k)) V ⟨t1, t2⟩ hob
      have HU2 := HU.out
      have hx := HEX.out
      rw [hx]
      clear HEX hx
      obtain ⟨ob1, ob2⟩ := hob
      generalize offP B O (plc (gS A O) t k) = ov at *
      have CW := hide fun (z : Int) (hz : z = u) V => show Calls Tryd.prog 23 #[.int .i64 z, .int .i64 8000000000] V fun e w' => e = .returned (.bool true) ∧ V = w' from by
        have hu : -8000000000 ≤ u ∧ u ≤ 8000000000 := by cases ex <;> simp at HU2 <;> omega
        have := within_any u 8000000000 V (by omega) (by omega)
        rw [inB_t hu] at this
        rw [hz]
        exact this
      have HF := hide hbw
      cases ex with
      | true =>
        rw [if_pos rfl] at HU2
        have CV := hide (CW.out (t - ov - 1) HU2.symm)
        subst HU2
        clear CW hbw
        go_wp2_with fail
        with_reducible refine (CB.out _).mono ?_
        rintro e w2 ⟨rfl, rfl⟩
        go_wp2_with fail
        with_reducible refine (CV.out _).mono ?_
        rintro e w2 ⟨rfl, rfl⟩
        go_wp2
        go_ret3
        exact ⟨rfl, HF.out⟩
      | false =>
        rw [if_neg (by simp), Int.sub_zero] at HU2
        have CV := hide (CW.out (t - ov) HU2.symm)
        subst HU2
        clear CW hbw
        go_wp2_with fail
        with_reducible refine (CB.out _).mono ?_
        rintro e w2 ⟨rfl, rfl⟩
        go_wp2_with fail
        with_reducible refine (CV.out _).mono ?_
        rintro e w2 ⟨rfl, rfl⟩
        go_wp2
        go_ret3
        exact ⟨rfl, HF.out⟩
set_option maxRecDepth 100000 in
set_option maxHeartbeats 3200000 in
theorem TAI_any (B X : Int) (a : Option Addr) (n cap : Nat) (A O : Nat → Int) (u x : Int) (ex : Bool) (w : World) (l : Laid w) (hr : Ents w a n A O) (hc0 : chkT B X A O n = 0) (hu : -8000000000 ≤ u ∧ u ≤ 8000000000) (h0 : (∀ j, j < n → A j ≠ u + 1) → x = 0) (h1 : ∀ j, j < n → A j = u + 1 → x = O j - oldO B O j) (hx1 : ex = true → x = 1) (hx2 : ex = false → x ≠ -1) :
    Calls Tryd.prog 8 #[.agg #[.int .i64 B, .int .i64 X, .slice a n cap], .int .i64 u, .bool ex] w fun e w' => e = .returned (.tuple #[.int .i64 (u + offP B O (plc A u n) + (if ex = true then 1 else 0)), .int .i64 0]) ∧ Below w.heap.size w w' := by
  have T := chkT_ok hc0
  obtain ⟨W0, hW0⟩ : ∃ W0, W0 = w.alloc (.cells #[.int .i64 B, .int .i64 X, .slice a n cap] 24) := ⟨_, rfl⟩
  have HB0 : Hid (Below (w.heap.size + 1) (w.alloc (.cells #[.int .i64 B, .int .i64 X, .slice a n cap] 24)) W0) := hide (by rw [hW0]; exact Below.refl _ _)
  have HH := hide hW0
  have HL := hide (fun V (g : Below W0.heap.size W0 V) => HB0.out.trans (g.mono (by have := HB0.out.size; simp at this; omega)))
  have HR := hide (fun V (g : Below W0.heap.size W0 V) => hr.below (boxB (HL.out V g)))
  have HK := hide (fun (V : World) (g : Below W0.heap.size W0 V) => cells3 (HL.out V g))
  have HF := hide (fun V (g : Below W0.heap.size W0 V) => boxB (HL.out V g))
  have LL := hide (fun V (g : Below W0.heap.size W0 V) => l.step (HF.out V g))
  have hb0 := Below.refl W0.heap.size W0
  have CC := hide (based (Nat.le_refl _) fun V (g : Below W0.heap.size W0 V) => by have q := Check_any B X a n cap A O V (LL.out V g) (HR.out V g); rw [hc0] at q; exact q)
  have CI := hide (based (Nat.le_refl _) fun V (_ : Below W0.heap.size W0 V) => by have q := within_any u 8000000000 V (by omega) (by omega); rw [inB_t hu] at q; exact q.mono fun _ w' (h : _ ∧ V = w') => And.intro h.1 (by rw [← h.2]; exact Below.refl _ _))
  have CH := hide (based (Nat.le_refl _) fun V (g : Below W0.heap.size W0 V) => change_any B X a n cap A O (u + 1) x V (HR.out V g) T h0 h1)
  have CO := hide (based (Nat.le_refl _) fun V (g : Below W0.heap.size W0 V) => offset_any B X a n cap A O u V (HR.out V g))
  obtain ⟨ob1, ob2⟩ := offP_bd T.b T.o (plc_spec A u n).1
  generalize offP B O (plc A u n) = ov at *
  obtain ⟨u1, u2⟩ := hu
  clear hW0 hr l hc0 T h0 h1
  cases ex with
  | true =>
    obtain rfl := hx1 rfl
    rw [if_pos rfl]
    clear hx1 hx2
    go_enter Tryd.func8, Tryd.ntmps8
    go_wp2_with fail
    rw [← HH.out]
    with_reducible refine (CC.out _ hb0).mono ?_
    rintro e w1 ⟨rfl, b1⟩
    go_wp2_with fail
    with_reducible refine (CI.out _ b1).mono ?_
    rintro e w2 ⟨rfl, b2⟩
    obtain ⟨c0, c1, c2, _⟩ := HK.out _ b2
    go_wp2_with fail
    with_reducible refine (CH.out _ b2).mono ?_
    rintro e w3 ⟨rfl, b3⟩
    clear c0 c1 c2 b1 b2
    obtain ⟨c0, c1, c2, _⟩ := HK.out _ b3
    go_wp2_with fail
    with_reducible refine (CO.out _ b3).mono ?_
    rintro e w4 ⟨rfl, b4⟩
    have HFF := hide (HF.out _ b4)
    clear c0 c1 c2 b3 b4
    go_wp2
    go_ret2
    exact ⟨rfl, HFF.out⟩
  | false =>
    have hne : (x == -1) = false := by simpa using hx2 rfl
    rw [if_neg (by simp), Int.add_zero]
    clear hx1 hx2
    go_enter Tryd.func8, Tryd.ntmps8
    go_wp2_with fail
    rw [← HH.out]
    with_reducible refine (CC.out _ hb0).mono ?_
    rintro e w1 ⟨rfl, b1⟩
    go_wp2_with fail
    with_reducible refine (CI.out _ b1).mono ?_
    rintro e w2 ⟨rfl, b2⟩
    obtain ⟨c0, c1, c2, _⟩ := HK.out _ b2
    go_wp2_with fail
    with_reducible refine (CH.out _ b2).mono ?_
    rintro e w3 ⟨rfl, b3⟩
    clear c0 c1 c2 b1 b2
    obtain ⟨c0, c1, c2, _⟩ := HK.out _ b3
    go_wp2_with fail
    with_reducible refine (CO.out _ b3).mono ?_
    rintro e w4 ⟨rfl, b4⟩
    have HFF := hide (HF.out _ b4)
    clear c0 c1 c2 b3 b4
    go_wp2
    go_ret2
    exact ⟨rfl, HFF.out⟩
end Go.Proofs.YtnmpoeljjajdiaaDoor.Leap
