/- The walk of the law SkewNarrows where its conditions hold. -/
import Derived.Test.YtjjhdigbgmbmnaaSkxM
import Derived.Test.YtjjhdigbgmbmnaaSkxD
import Derived.Test.YtjjhdigbgmbmnaaSkwN
import Derived.Test.YtjjhdigbgmbmnaaSkwY
import Derived.Test.YtjjhdigbgmbmnaaQuiet
namespace Go.Proofs.Ytjjhdigbgmbmnaa.Skw
open Go.RowKit Aid Fx App
theorem own_nilG {V : World} {g base : Nat} (hg : g = V.heap.size) (hb : base ≤ V.heap.size) : (V.alloc (.cells #[] 43)).ownsRow base 43 3 (.slice (some ⟨g, 0, none⟩) 0 0) 0 [] := by
  subst hg
  exact World.ownsRow_lit V #[] 0 hb (by unfold maxLen; omega) rfl
theorem gates_srcA {w : World} {b off o n j m : Nat} {X L H : Nat → Int} (h : ∀ i, i < n → w.cell? ⟨b, off + i * 3, none⟩ = some (.int .i64 (X i)) ∧ w.cell? ⟨b, off + i * 3 + 1, none⟩ = some (.int .i64 (L i)) ∧ w.cell? ⟨b, off + i * 3 + 2, none⟩ = some (.int .i64 (H i))) (ho : o = off + j * 3) (hm : j + m ≤ n) :
    Src w 3 (some ⟨b, o, none⟩) m (rowG (fun t => X (j + t)) (fun t => L (j + t)) (fun t => H (j + t)) m) := by
  subst ho
  exact gates_src fun t ht => h (j + t) (by omega)
theorem gates_src0 {w : World} {b off n m : Nat} {X L H : Nat → Int} (h : ∀ i, i < n → w.cell? ⟨b, off + i * 3, none⟩ = some (.int .i64 (X i)) ∧ w.cell? ⟨b, off + i * 3 + 1, none⟩ = some (.int .i64 (L i)) ∧ w.cell? ⟨b, off + i * 3 + 2, none⟩ = some (.int .i64 (H i))) (hm : m ≤ n) :
    Src w 3 (some ⟨b, off, none⟩) m (rowG X L H m) := by
  have k := gates_srcA (o := off) (j := 0) (m := m) h (by omega) (by omega)
  simp only [Nat.zero_add] at k
  exact k
theorem src_nilG {W : World} (ad : Option Addr) : Src W 3 ad 0 [] := by simp [Src]
theorem none_oneG : ∀ u ∈ ([] : List Value), u.oneCell' = true := fun _ h => by simp at h
theorem cat_done {w : World} {base n k j : Nat} {v : Value} {X L H : Nat → Int} (hj : j = k + 1) (hk : k < n) (h : w.ownsRow base 43 3 v (0 + k + (n - j)) (([] ++ rowG X L H k) ++ rowG (fun t => X (j + t)) (fun t => L (j + t)) (fun t => H (j + t)) (n - j))) :
    w.ownsRow base 43 3 v (n - 1) (rowG (sk k X) (sk k L) (sk k H) (n - 1)) := by
  subst hj
  rw [List.nil_append, rowG_cat, show 0 + k + (n - (k + 1)) = n - 1 by omega, show k + (n - (k + 1)) = n - 1 by omega] at h
  exact h
theorem cat_done0 {w : World} {base n k : Nat} {v : Value} {X L H : Nat → Int} (hk : k + 1 = n) (h : w.ownsRow base 43 3 v (0 + k + 0) (([] ++ rowG X L H k) ++ [])) :
    w.ownsRow base 43 3 v (n - 1) (rowG (sk k X) (sk k L) (sk k H) (n - 1)) := by
  refine cat_done (j := k + 1) rfl (by omega) ?_
  rw [show n - (k + 1) = 0 by omega]
  exact h
structure Ei (A B C D : Nat) (U1 V1 U2 V2 P1 Q1 P2 Q2 : Rat) (W : World) : Prop where
  a : RatAt W A U1.num U1.den
  b : RatAt W (A + 1) V1.num V1.den
  c : RatAt W B U2.num U2.den
  d : RatAt W (B + 1) V2.num V2.den
  e : RatAt W C P1.num P1.den
  f : RatAt W (C + 1) Q1.num Q1.den
  g : RatAt W D P2.num P2.den
  h : RatAt W (D + 1) Q2.num Q2.den
theorem Ei.step {A B C D : Nat} {U1 V1 U2 V2 P1 Q1 P2 Q2 : Rat} {W W' : World} (t : Ei A B C D U1 V1 U2 V2 P1 Q1 P2 Q2 W) (k : Below W.heap.size W W') : Ei A B C D U1 V1 U2 V2 P1 Q1 P2 Q2 W' :=
  ⟨t.a.step k, t.b.step k, t.c.step k, t.d.step k, t.e.step k, t.f.step k, t.g.step k, t.h.step k⟩
set_option maxRecDepth 100000 in
set_option maxHeartbeats 25600000 in
theorem SkewNarrows_main (a : Option Addr) (n cap : Nat) (X L H : Nat → Int) (k : Nat) (x : Int) (w : World) (hr : GatesAt w a n X L H) (hcap : n ≤ cap) (h24 : n ≤ 24) (h3 : 3 ≤ n) (hk : k < n) (hp : PaB X L H n) (hx : 0 ≤ x ∧ x ≤ 1073741824) :
    Calls Try.prog 9 #[.slice a n cap, .int .i64 k, .int .i64 x] w fun e w' => e = .returned (.bool true) ∧ Below w.heap.size w w' := by
  have ok := chk_ok hp.1
  have hle : topR (sl1 X L H) n ≤ botR (sl2 X L H) n := by rcases hp.2 with h | h; omega; exact h
  have okm := sk_ok (k := k) ok (by omega)
  have SM := sk_sl X L H n k h3
  have VM := sk_va X L H n k x h3
  have hlem : topR (sl1 (sk k X) (sk k L) (sk k H)) (n - 1) ≤ botR (sl2 (sk k X) (sk k L) (sk k H)) (n - 1) := Rat.le_trans SM.1 (Rat.le_trans hle SM.2)
  have hx' : ¬ (x < 0 ∨ 1073741824 < x) := by omega
  have sE : ∀ (X L H : Nat → Int) (n : Nat), GOk X L H n → 2 ≤ n → topR (sl1 X L H) n ≤ botR (sl2 X L H) n → slE X L H n = 0 ∧ slA X L H n = ((topR (sl1 X L H) n).num, ((topR (sl1 X L H) n).den : Int)) ∧ slB X L H n = ((botR (sl2 X L H) n).num, ((botR (sl2 X L H) n).den : Int)) := by
    intro X L H n ok h2 hle
    have e : slE X L H n = 0 := by unfold slE; rw [if_neg (by rw [ok_chk ok]; decide), if_neg (by rintro (k | k); omega; exact k hle)]
    refine ⟨e, ?_, ?_⟩
    · unfold slA; rw [if_pos e]
    · unfold slB; rw [if_pos e]
  have aE : ∀ (X L H : Nat → Int) (n : Nat) (x : Int), GOk X L H n → 2 ≤ n → topR (sl1 X L H) n ≤ botR (sl2 X L H) n → ¬ (x < 0 ∨ 1073741824 < x) → atE X L H n x = 0 ∧ atA X L H n x = ((topR (va1 X L H x) n).num, ((topR (va1 X L H x) n).den : Int)) ∧ atB X L H n x = ((botR (va2 X L H x) n).num, ((botR (va2 X L H x) n).den : Int)) := by
    intro X L H n x ok h2 hle hx
    have e : atE X L H n x = 0 := by unfold atE; rw [if_neg (by rw [ok_chk ok]; decide), if_neg hx, if_neg (by omega), if_pos hle]
    refine ⟨e, ?_, ?_⟩
    · unfold atA; rw [if_pos e, if_neg (by omega)]
    · unfold atB; rw [if_pos e, if_neg (by omega)]
  have hR := ok.r k hk
  have hXk : ¬ (X k < 0 ∨ 1073741824 < X k) := by obtain ⟨a, b, _⟩ := hR; omega
  have HGT := hide (fun W (h : Below w.heap.size w W) => hr.below h)
  have CF := hide (fun W => few_any a n cap W)
  rw [decide_eq_true h24] at CF
  have CC := hide (fun W (h : Below w.heap.size w W) => Check_any a n cap X L H W (HGT.out W h))
  rw [hp.1] at CC
  have CP := hide (fun W (h : Below w.heap.size w W) => Passes_any a n cap X L H W (HGT.out W h) hcap)
  rw [decide_eq_true hp] at CP
  have S1 := sl_num ok (by omega)
  have S2 := sl_num okm (by omega)
  have F1 := va_fit ok (by omega) hx
  have F2 := va_fit okm (by omega) hx
  have F3 := va_fit ok (x := X k) (by omega) ⟨by obtain ⟨a, b, _⟩ := hR; omega, by obtain ⟨a, b, _⟩ := hR; omega⟩
  have VA := va_at ok (by omega) hk
  have CS1 : Hid (∀ W, Below w.heap.size w W → Calls Try.prog 12 #[.slice a n cap] W fun e w' => e = .returned (.tuple #[.agg #[.int .i64 (topR (sl1 X L H) n).num, .int .i64 (topR (sl1 X L H) n).den], .agg #[.int .i64 (botR (sl2 X L H) n).num, .int .i64 (botR (sl2 X L H) n).den], .int .i64 0]) ∧ Below W.heap.size W w') := hide fun W h => by
    have q := Slopes_any a n cap X L H W (HGT.out W h) hcap
    rw [(sE X L H n ok (by omega) hle).1, (sE X L H n ok (by omega) hle).2.1, (sE X L H n ok (by omega) hle).2.2] at q
    exact q
  have CA1 : Hid (∀ W, Below w.heap.size w W → Calls Try.prog 23 #[.slice a n cap, .int .i64 x] W fun e w' => e = .returned (.tuple #[.agg #[.int .i64 (topR (va1 X L H x) n).num, .int .i64 (topR (va1 X L H x) n).den], .agg #[.int .i64 (botR (va2 X L H x) n).num, .int .i64 (botR (va2 X L H x) n).den], .int .i64 0]) ∧ Below W.heap.size W w') := hide fun W h => by
    have q := At_any a n cap X L H x W (HGT.out W h) hcap
    rw [(aE X L H n x ok (by omega) hle hx').1, (aE X L H n x ok (by omega) hle hx').2.1, (aE X L H n x ok (by omega) hle hx').2.2] at q
    exact q
  have CA3 : Hid (∀ W, Below w.heap.size w W → Calls Try.prog 23 #[.slice a n cap, .int .i64 (X k)] W fun e w' => e = .returned (.tuple #[.agg #[.int .i64 (topR (va1 X L H (X k)) n).num, .int .i64 (topR (va1 X L H (X k)) n).den], .agg #[.int .i64 (botR (va2 X L H (X k)) n).num, .int .i64 (botR (va2 X L H (X k)) n).den], .int .i64 0]) ∧ Below W.heap.size W w') := hide fun W h => by
    have q := At_any a n cap X L H (X k) W (HGT.out W h) hcap
    rw [(aE X L H n (X k) ok (by omega) hle hXk).1, (aE X L H n (X k) ok (by omega) hle hXk).2.1, (aE X L H n (X k) ok (by omega) hle hXk).2.2] at q
    exact q
  have CS2 : Hid (∀ p c W, GatesAt W p (n - 1) (sk k X) (sk k L) (sk k H) → n - 1 ≤ c → Calls Try.prog 12 #[.slice p (n - 1) c] W fun e w' => e = .returned (.tuple #[.agg #[.int .i64 (topR (sl1 (sk k X) (sk k L) (sk k H)) (n - 1)).num, .int .i64 (topR (sl1 (sk k X) (sk k L) (sk k H)) (n - 1)).den], .agg #[.int .i64 (botR (sl2 (sk k X) (sk k L) (sk k H)) (n - 1)).num, .int .i64 (botR (sl2 (sk k X) (sk k L) (sk k H)) (n - 1)).den], .int .i64 0]) ∧ Below W.heap.size W w') := hide fun p c W h hc => by
    have q := Slopes_any p (n - 1) c _ _ _ W h hc
    rw [(sE _ _ _ (n - 1) okm (by omega) hlem).1, (sE _ _ _ (n - 1) okm (by omega) hlem).2.1, (sE _ _ _ (n - 1) okm (by omega) hlem).2.2] at q
    exact q
  have CA2 : Hid (∀ p c W, GatesAt W p (n - 1) (sk k X) (sk k L) (sk k H) → n - 1 ≤ c → Calls Try.prog 23 #[.slice p (n - 1) c, .int .i64 x] W fun e w' => e = .returned (.tuple #[.agg #[.int .i64 (topR (va1 (sk k X) (sk k L) (sk k H) x) (n - 1)).num, .int .i64 (topR (va1 (sk k X) (sk k L) (sk k H) x) (n - 1)).den], .agg #[.int .i64 (botR (va2 (sk k X) (sk k L) (sk k H) x) (n - 1)).num, .int .i64 (botR (va2 (sk k X) (sk k L) (sk k H) x) (n - 1)).den], .int .i64 0]) ∧ Below W.heap.size W w') := hide fun p c W h hc => by
    have q := At_any p (n - 1) c _ _ _ x W h hc
    rw [(aE _ _ _ (n - 1) x okm (by omega) hlem hx').1, (aE _ _ _ (n - 1) x okm (by omega) hlem hx').2.1, (aE _ _ _ (n - 1) x okm (by omega) hlem hx').2.2] at q
    exact q
  clear sE aE
  generalize topR (sl1 X L H) n = U1 at *
  generalize botR (sl2 X L H) n = V1 at *
  generalize topR (sl1 (sk k X) (sk k L) (sk k H)) (n - 1) = U2 at *
  generalize botR (sl2 (sk k X) (sk k L) (sk k H)) (n - 1) = V2 at *
  generalize topR (va1 X L H x) n = P1 at *
  generalize botR (va2 X L H x) n = Q1 at *
  generalize topR (va1 (sk k X) (sk k L) (sk k H) x) (n - 1) = P2 at *
  generalize botR (va2 (sk k X) (sk k L) (sk k H) x) (n - 1) = Q2 at *
  generalize topR (va1 X L H (X k)) n = U3 at *
  generalize botR (va2 X L H (X k)) n = V3 at *
  have R1 := hide (fun W => right_any U1 W S1.1.1)
  have R2 := hide (fun W => right_any V1 W S1.2.1)
  have R3 := hide (fun W => right_any U2 W S2.1.1)
  have R4 := hide (fun W => right_any V2 W S2.2.1)
  have R5 := hide (fun W => right_any P1 W F1.1)
  have R6 := hide (fun W => right_any Q1 W F1.2)
  have R7 := hide (fun W => right_any P2 W F2.1)
  have R8 := hide (fun W => right_any Q2 W F2.2)
  have L1 := hide (fun W => wless_any U1 U2 W S1.1.1 S2.1.1)
  rw [decide_eq_false (Rat.not_lt.2 SM.1)] at L1
  have L2 := hide (fun W => wless_any V2 V1 W S2.2.1 S1.2.1)
  rw [decide_eq_false (Rat.not_lt.2 SM.2)] at L2
  have L3 := hide (fun W => wless_any P1 P2 W F1.1 F2.1)
  rw [decide_eq_false (Rat.not_lt.2 VM.1)] at L3
  have L4 := hide (fun W => wless_any Q2 Q1 W F2.2 F1.2)
  rw [decide_eq_false (Rat.not_lt.2 VM.2)] at L4
  have hRl : -1073741824 ≤ L k ∧ L k ≤ 1073741824 ∧ -1073741824 ≤ H k ∧ H k ≤ 1073741824 := by obtain ⟨_, _, c, d, e, f⟩ := hR; exact ⟨c, d, e, f⟩
  have L5 := hide (fun W => lless_any U3.num U3.den (L k) 1 W F3.1.1 (by omega) F3.1.2 (by omega))
  rw [Rat.num_divInt_den, decide_eq_false (Rat.not_lt.2 VA.1)] at L5
  have L6 := hide (fun W => lless_any (H k) 1 V3.num V3.den W (by omega) F3.2.1 (by omega) F3.2.2)
  rw [Rat.num_divInt_den, decide_eq_false (Rat.not_lt.2 VA.2)] at L6
  have R9 := hide (fun W => right_any U3 W F3.1)
  have R10 := hide (fun W => right_any V3 W F3.2)
  have CW := hide awake_any
  have hn63 := hr.1
  obtain ⟨b, off, rfl, hlt, hc0⟩ := hr.at_ (by omega)
  have HGC := hide hc0
  have HS : Hid (∀ W, Below w.heap.size w W → ∀ i, i < n → W.cell? ⟨b, off + i * 3, none⟩ = some (.int .i64 (X i)) ∧ W.cell? ⟨b, off + i * 3 + 1, none⟩ = some (.int .i64 (L i)) ∧ W.cell? ⟨b, off + i * 3 + 2, none⟩ = some (.int .i64 (H i))) :=
    hide fun W h i hi => ⟨(h.cell (p := ⟨b, _, none⟩) hlt).trans (HGC.out i hi).1, (h.cell (p := ⟨b, _, none⟩) hlt).trans (HGC.out i hi).2.1, (h.cell (p := ⟨b, _, none⟩) hlt).trans (HGC.out i hi).2.2⟩
  clear S1 S2 F1 F2 F3 VA SM VM hle hlem ok okm hR hRl hXk hx' hp hr hc0 HGC HGT
  have hkq : (k : Int) < (n : Int) := by omega
  have q1 : decide ((n : Int) < 3) = false := by simp; omega
  have q2 : decide ((k : Int) < 0) = false := by simp <;> omega
  have q3 : decide ((n : Int) ≤ (k : Int)) = false := by simp; omega
  have q4 : decide (x < 0) = false := by simp; omega
  have q5 : decide (1073741824 < x) = false := by simp; omega
  obtain ⟨i0, hi0, hz0, hz1, hz2⟩ := info_parts info_gate
  have HI0 := hide hi0
  have HZ0 := hide hz0
  have HZ1 := hide hz1
  have HZ2 := hide hz2
  clear hi0 hz0 hz1 hz2
  go_enter Try.func9, Try.ntmps9
  go_wp2_with fail
  with_reducible refine (CF.out _).mono ?_
  rintro e w1 ⟨rfl, hb⟩
  clear CF
  go_wp2_with fail
  with_reducible refine (CC.out _ hb).mono ?_
  rintro e w2 ⟨rfl, hbn⟩
  replace hb := rat_trans hb hbn
  clear hbn  CC
  go_wp2_with fail
  with_reducible refine (CP.out _ hb).mono ?_
  rintro e wp ⟨rfl, hbn⟩
  replace hb := rat_trans hb hbn
  clear hbn  CP
  clear q1 q2 q3 q4 q5
  go_upto_region 3 with fail
  have hbp := hb
  go_cut [7] (fun v wx => wx.ownsRow w.heap.size 43 3 v (n - 1) (rowG (sk k X) (sk k L) (sk k H) (n - 1)) ∧ Below w.heap.size w wx)
  case first =>
    clear CS1 CA1 CA3 CS2 CA2 R1 R2 R3 R4 R5 R6 R7 R8 R9 R10 L1 L2 L3 L4 L5 L6 CW
    have hb1 := hb
    have hbb := hb
    have HKN : Hid (k ≤ n) := hide (by omega)
    obtain ⟨j, hj⟩ : ∃ j, j = k + 1 := ⟨_, rfl⟩
    have vk : IntKind.i64.wrap ((k : Int) + 1) = (j : Int) := by rw [show (j : Int) = (k : Int) + 1 by omega]; exact IntWalk.i64_in _ (by omega)
    have l1 : (k : Int) ≤ (n : Int) := by omega
    have l2 : (k : Int) ≤ (cap : Int) := by omega
    have l3 : (j : Int) ≤ (n : Int) := by omega
    have l4 : (j : Int) ≤ (cap : Int) := by omega
    have l5 : (n : Int) ≤ (cap : Int) := by omega
    have HJ := hide hj
    have HH24 := hide h24
    by_cases hjn : j < n
    · have hcj : ¬ cap = j := by omega
      clear hj
      go_region_held3 (fun W => Below w.heap.size w W)
        (repeat (first | with_reducible exact hbb | with_reducible exact hb1 | with_reducible refine rat_up ?_ _ | with_reducible refine Below.drew ?_ | with_reducible refine below_drewN ?_ _))
        (first | (refine step_app2 _ rfl (.tmp 60) (.tmp 63) 22 rfl w.heap.size 43 i0 _ 3 24 Try.underlying22 HI0.out HZ0.out HZ1.out HZ2.out rfl (Nat.zero_lt_succ 2) 0 [] ?_ k (rowG X L H k) ?_ (rowG_one _ _ _ _) ?_ ?_ ?_ ?_; (first | (refine own_nilG ?_ ?_; (first | rfl | (focus (simp; done))); (exact low_size (by (repeat (first | with_reducible exact hbb | with_reducible exact hb1 | with_reducible refine rat_up ?_ _ | with_reducible refine Below.drew ?_ | with_reducible refine below_drewN ?_ _))))) | (refine row_step (own_nilG (V := wp) rfl ?_) ?_; (exact low_size (by (repeat (first | with_reducible exact hbb | with_reducible exact hb1 | with_reducible refine rat_up ?_ _ | with_reducible refine Below.drew ?_ | with_reducible refine below_drewN ?_ _)))); (repeat (first | exact Below.refl _ _ | with_reducible refine Below.drew ?_ | with_reducible refine below_drewN ?_ _))) | (refine row_step (own_nilG (V := wp.drew) rfl ?_) ?_; (exact low_size (by (repeat (first | with_reducible exact hbb | with_reducible exact hb1 | with_reducible refine rat_up ?_ _ | with_reducible refine Below.drew ?_ | with_reducible refine below_drewN ?_ _)))); (repeat (first | exact Below.refl _ _ | with_reducible refine Below.drew ?_ | with_reducible refine below_drewN ?_ _)))); exact ⟨_, _, rfl, gates_src0 (HS.out _ (by (repeat (first | with_reducible exact hbb | with_reducible exact hb1 | with_reducible refine rat_up ?_ _ | with_reducible refine Below.drew ?_ | with_reducible refine below_drewN ?_ _)))) HKN.out⟩; (unfold maxLen; have := HKN.out; omega); (have := HKN.out; omega); (exact low_size (by (repeat (first | with_reducible exact hbb | with_reducible exact hb1 | with_reducible refine rat_up ?_ _ | with_reducible refine Below.drew ?_ | with_reducible refine below_drewN ?_ _)))); intro v1 wA hown1 hg1 hbk1; have hbb : Below w.heap.size w wA := Below.grown (by (repeat (first | with_reducible exact hbb | with_reducible exact hb1 | with_reducible refine rat_up ?_ _ | with_reducible refine Below.drew ?_ | with_reducible refine below_drewN ?_ _))) hg1 (low_size (by (repeat (first | with_reducible exact hbb | with_reducible exact hb1 | with_reducible refine rat_up ?_ _ | with_reducible refine Below.drew ?_ | with_reducible refine below_drewN ?_ _)))) hbk1) | (refine step_app2 _ rfl (.tmp 64) (.tmp 68) 22 rfl w.heap.size 43 i0 _ 3 24 Try.underlying22 HI0.out HZ0.out HZ1.out HZ2.out rfl (Nat.zero_lt_succ 2) (0 + k) ([] ++ rowG X L H k) ?_ (n - j) (rowG (fun t => X (j + t)) (fun t => L (j + t)) (fun t => H (j + t)) (n - j)) ?_ (rowG_one _ _ _ _) ?_ ?_ ?_ ?_; (first | exact hown1 | exact row_step hown1 (by repeat (first | exact Below.refl _ _ | with_reducible refine Below.drew ?_ | with_reducible refine below_drewN ?_ _))); exact ⟨_, _, rfl, gates_srcA (HS.out _ (by (repeat (first | with_reducible exact hbb | with_reducible exact hb1 | with_reducible refine rat_up ?_ _ | with_reducible refine Below.drew ?_ | with_reducible refine below_drewN ?_ _)))) rfl (by have := HJ.out; have := HKN.out; omega)⟩; (unfold maxLen; have := HKN.out; omega); (have := HKN.out; omega); (exact low_size (by (repeat (first | with_reducible exact hbb | with_reducible exact hb1 | with_reducible refine rat_up ?_ _ | with_reducible refine Below.drew ?_ | with_reducible refine below_drewN ?_ _)))); intro v2 wB hown2 hg2 hbk2; have hbb : Below w.heap.size w wB := Below.grown (by (repeat (first | with_reducible exact hbb | with_reducible exact hb1 | with_reducible refine rat_up ?_ _ | with_reducible refine Below.drew ?_ | with_reducible refine below_drewN ?_ _))) hg2 (low_size (by (repeat (first | with_reducible exact hbb | with_reducible exact hb1 | with_reducible refine rat_up ?_ _ | with_reducible refine Below.drew ?_ | with_reducible refine below_drewN ?_ _)))) hbk2))
      all_goals
        go_wp2_with fail
        go_meet
        exact ⟨cat_done HJ.out (by have := HJ.out; omega) hown2, hbb⟩
    · have e : j = n := by omega
      subst e
      have HE : Hid (k + 1 = j) := hide hj.symm
      clear hj hjn
      by_cases hjc : j = cap
      · subst hjc
        go_region_held3 (fun W => Below w.heap.size w W)
          (repeat (first | with_reducible exact hbb | with_reducible exact hb1 | with_reducible refine rat_up ?_ _ | with_reducible refine Below.drew ?_ | with_reducible refine below_drewN ?_ _))
          (first | (refine step_app2 _ rfl (.tmp 60) (.tmp 63) 22 rfl w.heap.size 43 i0 _ 3 24 Try.underlying22 HI0.out HZ0.out HZ1.out HZ2.out rfl (Nat.zero_lt_succ 2) 0 [] ?_ k (rowG X L H k) ?_ (rowG_one _ _ _ _) ?_ ?_ ?_ ?_; (first | (refine own_nilG ?_ ?_; (first | rfl | (focus (simp; done))); (exact low_size (by (repeat (first | with_reducible exact hbb | with_reducible exact hb1 | with_reducible refine rat_up ?_ _ | with_reducible refine Below.drew ?_ | with_reducible refine below_drewN ?_ _))))) | (refine row_step (own_nilG (V := wp) rfl ?_) ?_; (exact low_size (by (repeat (first | with_reducible exact hbb | with_reducible exact hb1 | with_reducible refine rat_up ?_ _ | with_reducible refine Below.drew ?_ | with_reducible refine below_drewN ?_ _)))); (repeat (first | exact Below.refl _ _ | with_reducible refine Below.drew ?_ | with_reducible refine below_drewN ?_ _))) | (refine row_step (own_nilG (V := wp.drew) rfl ?_) ?_; (exact low_size (by (repeat (first | with_reducible exact hbb | with_reducible exact hb1 | with_reducible refine rat_up ?_ _ | with_reducible refine Below.drew ?_ | with_reducible refine below_drewN ?_ _)))); (repeat (first | exact Below.refl _ _ | with_reducible refine Below.drew ?_ | with_reducible refine below_drewN ?_ _)))); exact ⟨_, _, rfl, gates_src0 (HS.out _ (by (repeat (first | with_reducible exact hbb | with_reducible exact hb1 | with_reducible refine rat_up ?_ _ | with_reducible refine Below.drew ?_ | with_reducible refine below_drewN ?_ _)))) HKN.out⟩; (unfold maxLen; have := HKN.out; omega); (have := HKN.out; omega); (exact low_size (by (repeat (first | with_reducible exact hbb | with_reducible exact hb1 | with_reducible refine rat_up ?_ _ | with_reducible refine Below.drew ?_ | with_reducible refine below_drewN ?_ _)))); intro v1 wA hown1 hg1 hbk1; have hbb : Below w.heap.size w wA := Below.grown (by (repeat (first | with_reducible exact hbb | with_reducible exact hb1 | with_reducible refine rat_up ?_ _ | with_reducible refine Below.drew ?_ | with_reducible refine below_drewN ?_ _))) hg1 (low_size (by (repeat (first | with_reducible exact hbb | with_reducible exact hb1 | with_reducible refine rat_up ?_ _ | with_reducible refine Below.drew ?_ | with_reducible refine below_drewN ?_ _)))) hbk1) | (refine step_app2 _ rfl (.tmp 64) (.tmp 68) 22 rfl w.heap.size 43 i0 _ 3 24 Try.underlying22 HI0.out HZ0.out HZ1.out HZ2.out rfl (Nat.zero_lt_succ 2) (0 + k) ([] ++ rowG X L H k) ?_ 0 [] ?_ none_oneG ?_ ?_ ?_ ?_; (first | exact hown1 | exact row_step hown1 (by repeat (first | exact Below.refl _ _ | with_reducible refine Below.drew ?_ | with_reducible refine below_drewN ?_ _))); exact ⟨_, _, rfl, src_nilG _⟩; (unfold maxLen; have := HKN.out; omega); (have := HKN.out; omega); (exact low_size (by (repeat (first | with_reducible exact hbb | with_reducible exact hb1 | with_reducible refine rat_up ?_ _ | with_reducible refine Below.drew ?_ | with_reducible refine below_drewN ?_ _)))); intro v2 wB hown2 hg2 hbk2; have hbb : Below w.heap.size w wB := Below.grown (by (repeat (first | with_reducible exact hbb | with_reducible exact hb1 | with_reducible refine rat_up ?_ _ | with_reducible refine Below.drew ?_ | with_reducible refine below_drewN ?_ _))) hg2 (low_size (by (repeat (first | with_reducible exact hbb | with_reducible exact hb1 | with_reducible refine rat_up ?_ _ | with_reducible refine Below.drew ?_ | with_reducible refine below_drewN ?_ _)))) hbk2))
        all_goals
          go_wp2_with fail
          go_meet
          exact ⟨cat_done0 HE.out hown2, hbb⟩
      · have hjc2 : j < cap := by omega
        have hcj : ¬ cap = j := by omega
        go_region_held3 (fun W => Below w.heap.size w W)
          (repeat (first | with_reducible exact hbb | with_reducible exact hb1 | with_reducible refine rat_up ?_ _ | with_reducible refine Below.drew ?_ | with_reducible refine below_drewN ?_ _))
          (first | (refine step_app2 _ rfl (.tmp 60) (.tmp 63) 22 rfl w.heap.size 43 i0 _ 3 24 Try.underlying22 HI0.out HZ0.out HZ1.out HZ2.out rfl (Nat.zero_lt_succ 2) 0 [] ?_ k (rowG X L H k) ?_ (rowG_one _ _ _ _) ?_ ?_ ?_ ?_; (first | (refine own_nilG ?_ ?_; (first | rfl | (focus (simp; done))); (exact low_size (by (repeat (first | with_reducible exact hbb | with_reducible exact hb1 | with_reducible refine rat_up ?_ _ | with_reducible refine Below.drew ?_ | with_reducible refine below_drewN ?_ _))))) | (refine row_step (own_nilG (V := wp) rfl ?_) ?_; (exact low_size (by (repeat (first | with_reducible exact hbb | with_reducible exact hb1 | with_reducible refine rat_up ?_ _ | with_reducible refine Below.drew ?_ | with_reducible refine below_drewN ?_ _)))); (repeat (first | exact Below.refl _ _ | with_reducible refine Below.drew ?_ | with_reducible refine below_drewN ?_ _))) | (refine row_step (own_nilG (V := wp.drew) rfl ?_) ?_; (exact low_size (by (repeat (first | with_reducible exact hbb | with_reducible exact hb1 | with_reducible refine rat_up ?_ _ | with_reducible refine Below.drew ?_ | with_reducible refine below_drewN ?_ _)))); (repeat (first | exact Below.refl _ _ | with_reducible refine Below.drew ?_ | with_reducible refine below_drewN ?_ _)))); exact ⟨_, _, rfl, gates_src0 (HS.out _ (by (repeat (first | with_reducible exact hbb | with_reducible exact hb1 | with_reducible refine rat_up ?_ _ | with_reducible refine Below.drew ?_ | with_reducible refine below_drewN ?_ _)))) HKN.out⟩; (unfold maxLen; have := HKN.out; omega); (have := HKN.out; omega); (exact low_size (by (repeat (first | with_reducible exact hbb | with_reducible exact hb1 | with_reducible refine rat_up ?_ _ | with_reducible refine Below.drew ?_ | with_reducible refine below_drewN ?_ _)))); intro v1 wA hown1 hg1 hbk1; have hbb : Below w.heap.size w wA := Below.grown (by (repeat (first | with_reducible exact hbb | with_reducible exact hb1 | with_reducible refine rat_up ?_ _ | with_reducible refine Below.drew ?_ | with_reducible refine below_drewN ?_ _))) hg1 (low_size (by (repeat (first | with_reducible exact hbb | with_reducible exact hb1 | with_reducible refine rat_up ?_ _ | with_reducible refine Below.drew ?_ | with_reducible refine below_drewN ?_ _)))) hbk1) | (refine step_app2 _ rfl (.tmp 64) (.tmp 68) 22 rfl w.heap.size 43 i0 _ 3 24 Try.underlying22 HI0.out HZ0.out HZ1.out HZ2.out rfl (Nat.zero_lt_succ 2) (0 + k) ([] ++ rowG X L H k) ?_ 0 [] ?_ none_oneG ?_ ?_ ?_ ?_; (first | exact hown1 | exact row_step hown1 (by repeat (first | exact Below.refl _ _ | with_reducible refine Below.drew ?_ | with_reducible refine below_drewN ?_ _))); exact ⟨_, _, rfl, src_nilG _⟩; (unfold maxLen; have := HKN.out; omega); (have := HKN.out; omega); (exact low_size (by (repeat (first | with_reducible exact hbb | with_reducible exact hb1 | with_reducible refine rat_up ?_ _ | with_reducible refine Below.drew ?_ | with_reducible refine below_drewN ?_ _)))); intro v2 wB hown2 hg2 hbk2; have hbb : Below w.heap.size w wB := Below.grown (by (repeat (first | with_reducible exact hbb | with_reducible exact hb1 | with_reducible refine rat_up ?_ _ | with_reducible refine Below.drew ?_ | with_reducible refine below_drewN ?_ _))) hg2 (low_size (by (repeat (first | with_reducible exact hbb | with_reducible exact hb1 | with_reducible refine rat_up ?_ _ | with_reducible refine Below.drew ?_ | with_reducible refine below_drewN ?_ _)))) hbk2))
        all_goals
          go_wp2_with fail
          go_meet
          exact ⟨cat_done0 HE.out hown2, hbb⟩
  case rest =>
    obtain ⟨own, hb5⟩ := hcut
    clear hb hbp
    have hb := hb5
    clear hb5
    obtain ⟨p, c, hv, hgt, hct⟩ := row_gates own (by omega)
    subst hv
    clear own
    have HGM := hide (fun W (h : Below wc.heap.size wc W) => hgt.below h)
    have C2 := hide (fun W (h : Below wc.heap.size wc W) => CS2.out p c W (HGM.out W h) hct)
    have C4 := hide (fun W (h : Below wc.heap.size wc W) => CA2.out p c W (HGM.out W h) hct)
    clear CS2 CA2 HGM hgt hct
    have hbm := Below.refl wc.heap.size wc
    go_wp2_with fail
    with_reducible refine (CS1.out _ hb).mono ?_
    rintro e w5 ⟨rfl, hbn⟩
    replace hb := rat_trans hb hbn
    replace hbm := rat_trans hbm hbn
    clear hbn  CS1
    go_upto_region 5 with fail
    have hup := ((Below.refl w5.heap.size w5).alloc (Nat.le_refl _) (.cells #[.int .i64 U1.num, .int .i64 U1.den] 26)).alloc (by simp) (.cells #[.int .i64 V1.num, .int .i64 V1.den] 26)
    have EA := (RatAt.newv (n := U1.num) (d := U1.den) (W := w5) rfl).alloc (.cells #[.int .i64 V1.num, .int .i64 V1.den] 26)
    have FA : RatAt ((w5.alloc (.cells #[.int .i64 U1.num, .int .i64 U1.den] 26)).alloc (.cells #[.int .i64 V1.num, .int .i64 V1.den] 26)) (w5.heap.size + 1) V1.num V1.den := RatAt.newv1 rfl
    replace hb := rat_trans hb hup
    replace hbm := rat_trans hbm hup
    clear hup
    generalize hW : ((w5.alloc (.cells #[.int .i64 U1.num, .int .i64 U1.den] 26)).alloc (.cells #[.int .i64 V1.num, .int .i64 V1.den] 26)) = W5 at EA FA hb hbm ⊢
    clear hW
    generalize w5.heap.size = A at EA FA ⊢
    go_wp2_with fail
    with_reducible refine (C2.out _ hbm).mono ?_
    rintro e w6 ⟨rfl, hbn⟩
    replace hb := rat_trans hb hbn
    replace hbm := rat_trans hbm hbn
    replace EA := EA.step hbn
    replace FA := FA.step hbn
    clear hbn  C2
    go_upto_region 6 with fail
    have hup := ((Below.refl w6.heap.size w6).alloc (Nat.le_refl _) (.cells #[.int .i64 U2.num, .int .i64 U2.den] 26)).alloc (by simp) (.cells #[.int .i64 V2.num, .int .i64 V2.den] 26)
    have EB := (RatAt.newv (n := U2.num) (d := U2.den) (W := w6) rfl).alloc (.cells #[.int .i64 V2.num, .int .i64 V2.den] 26)
    have FB : RatAt ((w6.alloc (.cells #[.int .i64 U2.num, .int .i64 U2.den] 26)).alloc (.cells #[.int .i64 V2.num, .int .i64 V2.den] 26)) (w6.heap.size + 1) V2.num V2.den := RatAt.newv1 rfl
    replace hb := rat_trans hb hup
    replace EA := EA.step hup
    replace FA := FA.step hup
    replace hbm := rat_trans hbm hup
    clear hup
    generalize hW : ((w6.alloc (.cells #[.int .i64 U2.num, .int .i64 U2.den] 26)).alloc (.cells #[.int .i64 V2.num, .int .i64 V2.den] 26)) = W6 at EB FB EA FA hb hbm ⊢
    clear hW
    generalize w6.heap.size = B at EB FB ⊢
    go_wp2_with fail
    with_reducible refine (CA1.out _ hb).mono ?_
    rintro e w7 ⟨rfl, hbn⟩
    replace hb := rat_trans hb hbn
    replace hbm := rat_trans hbm hbn
    replace EA := EA.step hbn
    replace FA := FA.step hbn
    replace EB := EB.step hbn
    replace FB := FB.step hbn
    clear hbn  CA1
    go_upto_region 7 with fail
    have hup := ((Below.refl w7.heap.size w7).alloc (Nat.le_refl _) (.cells #[.int .i64 P1.num, .int .i64 P1.den] 26)).alloc (by simp) (.cells #[.int .i64 Q1.num, .int .i64 Q1.den] 26)
    have EC := (RatAt.newv (n := P1.num) (d := P1.den) (W := w7) rfl).alloc (.cells #[.int .i64 Q1.num, .int .i64 Q1.den] 26)
    have FC : RatAt ((w7.alloc (.cells #[.int .i64 P1.num, .int .i64 P1.den] 26)).alloc (.cells #[.int .i64 Q1.num, .int .i64 Q1.den] 26)) (w7.heap.size + 1) Q1.num Q1.den := RatAt.newv1 rfl
    replace hb := rat_trans hb hup
    replace EA := EA.step hup
    replace FA := FA.step hup
    replace EB := EB.step hup
    replace FB := FB.step hup
    replace hbm := rat_trans hbm hup
    clear hup
    generalize hW : ((w7.alloc (.cells #[.int .i64 P1.num, .int .i64 P1.den] 26)).alloc (.cells #[.int .i64 Q1.num, .int .i64 Q1.den] 26)) = W7 at EC FC EA FA EB FB hb hbm ⊢
    clear hW
    generalize w7.heap.size = C at EC FC ⊢
    go_wp2_with fail
    with_reducible refine (C4.out _ hbm).mono ?_
    rintro e w8 ⟨rfl, hbn⟩
    replace hb := rat_trans hb hbn
    replace hbm := rat_trans hbm hbn
    replace EA := EA.step hbn
    replace FA := FA.step hbn
    replace EB := EB.step hbn
    replace FB := FB.step hbn
    replace EC := EC.step hbn
    replace FC := FC.step hbn
    clear hbn  C4
    go_upto_region 8 with fail
    have hup := ((Below.refl w8.heap.size w8).alloc (Nat.le_refl _) (.cells #[.int .i64 P2.num, .int .i64 P2.den] 26)).alloc (by simp) (.cells #[.int .i64 Q2.num, .int .i64 Q2.den] 26)
    have ED := (RatAt.newv (n := P2.num) (d := P2.den) (W := w8) rfl).alloc (.cells #[.int .i64 Q2.num, .int .i64 Q2.den] 26)
    have FD : RatAt ((w8.alloc (.cells #[.int .i64 P2.num, .int .i64 P2.den] 26)).alloc (.cells #[.int .i64 Q2.num, .int .i64 Q2.den] 26)) (w8.heap.size + 1) Q2.num Q2.den := RatAt.newv1 rfl
    replace hb := rat_trans hb hup
    replace EA := EA.step hup
    replace FA := FA.step hup
    replace EB := EB.step hup
    replace FB := FB.step hup
    replace EC := EC.step hup
    replace FC := FC.step hup
    replace hbm := rat_trans hbm hup
    clear hup
    generalize hW : ((w8.alloc (.cells #[.int .i64 P2.num, .int .i64 P2.den] 26)).alloc (.cells #[.int .i64 Q2.num, .int .i64 Q2.den] 26)) = W8 at ED FD EA FA EB FB EC FC hb hbm ⊢
    clear hW
    generalize w8.heap.size = D at ED FD ⊢
    have EI : Ei A B C D U1 V1 U2 V2 P1 Q1 P2 Q2 W8 := ⟨EA, FA, EB, FB, EC, FC, ED, FD⟩
    clear EA FA EB FB EC FC ED FD hbm
    go_upto_region 10 with fail
    obtain ⟨x00, x01, _⟩ := EI.a.cells
    go_wp2_with fail
    with_reducible refine (R1.out _).mono ?_
    rintro e w20 ⟨rfl, hbn⟩
    replace hb := rat_trans hb hbn
    replace EI := EI.step hbn
    clear hbn x00 x01 R1
    obtain ⟨x00, x01, _⟩ := EI.b.cells
    go_wp2_with fail
    with_reducible refine (R2.out _).mono ?_
    rintro e w21 ⟨rfl, hbn⟩
    replace hb := rat_trans hb hbn
    replace EI := EI.step hbn
    clear hbn x00 x01 R2
    obtain ⟨x00, x01, _⟩ := EI.c.cells
    go_wp2_with fail
    with_reducible refine (R3.out _).mono ?_
    rintro e w22 ⟨rfl, hbn⟩
    replace hb := rat_trans hb hbn
    replace EI := EI.step hbn
    clear hbn x00 x01 R3
    obtain ⟨x00, x01, _⟩ := EI.d.cells
    go_wp2_with fail
    with_reducible refine (R4.out _).mono ?_
    rintro e w23 ⟨rfl, hbn⟩
    replace hb := rat_trans hb hbn
    replace EI := EI.step hbn
    clear hbn x00 x01 R4
    obtain ⟨x00, x01, _⟩ := EI.e.cells
    go_wp2_with fail
    with_reducible refine (R5.out _).mono ?_
    rintro e w24 ⟨rfl, hbn⟩
    replace hb := rat_trans hb hbn
    replace EI := EI.step hbn
    clear hbn x00 x01 R5
    obtain ⟨x00, x01, _⟩ := EI.f.cells
    go_wp2_with fail
    with_reducible refine (R6.out _).mono ?_
    rintro e w25 ⟨rfl, hbn⟩
    replace hb := rat_trans hb hbn
    replace EI := EI.step hbn
    clear hbn x00 x01 R6
    obtain ⟨x00, x01, _⟩ := EI.g.cells
    go_wp2_with fail
    with_reducible refine (R7.out _).mono ?_
    rintro e w26 ⟨rfl, hbn⟩
    replace hb := rat_trans hb hbn
    replace EI := EI.step hbn
    clear hbn x00 x01 R7
    obtain ⟨x00, x01, _⟩ := EI.h.cells
    go_wp2_with fail
    with_reducible refine (R8.out _).mono ?_
    rintro e w27 ⟨rfl, hbn⟩
    replace hb := rat_trans hb hbn
    replace EI := EI.step hbn
    clear hbn x00 x01 R8
    obtain ⟨x00, x01, _⟩ := EI.a.cells
    obtain ⟨x10, x11, _⟩ := EI.c.cells
    go_wp2_with fail
    with_reducible refine (L1.out _).mono ?_
    rintro e w28 ⟨rfl, hbn⟩
    replace hb := rat_trans hb hbn
    replace EI := EI.step hbn
    clear hbn x00 x01 x10 x11 L1
    obtain ⟨x00, x01, _⟩ := EI.d.cells
    obtain ⟨x10, x11, _⟩ := EI.b.cells
    go_wp2_with fail
    with_reducible refine (L2.out _).mono ?_
    rintro e w29 ⟨rfl, hbn⟩
    replace hb := rat_trans hb hbn
    replace EI := EI.step hbn
    clear hbn x00 x01 x10 x11 L2
    obtain ⟨x00, x01, _⟩ := EI.e.cells
    obtain ⟨x10, x11, _⟩ := EI.g.cells
    go_wp2_with fail
    with_reducible refine (L3.out _).mono ?_
    rintro e w30 ⟨rfl, hbn⟩
    replace hb := rat_trans hb hbn
    replace EI := EI.step hbn
    clear hbn x00 x01 x10 x11 L3
    obtain ⟨x00, x01, _⟩ := EI.h.cells
    obtain ⟨x10, x11, _⟩ := EI.f.cells
    go_wp2_with fail
    with_reducible refine (L4.out _).mono ?_
    rintro e w31 ⟨rfl, hbn⟩
    replace hb := rat_trans hb hbn
    replace EI := EI.step hbn
    clear hbn x00 x01 x10 x11 L4
    clear EI
    obtain ⟨c0, -, -⟩ := HS.out _ hb k hk
    have hbq := Nat.lt_of_lt_of_le hlt hb.size
    go_wp2_with fail
    with_reducible refine (CA3.out _ hb).mono ?_
    rintro e w32 ⟨rfl, hbn⟩
    replace hb := rat_trans hb hbn
    clear hbn  CA3
    clear c0 hbq
    go_upto_region 13 with fail
    have hup := ((Below.refl w32.heap.size w32).alloc (Nat.le_refl _) (.cells #[.int .i64 U3.num, .int .i64 U3.den] 26)).alloc (by simp) (.cells #[.int .i64 V3.num, .int .i64 V3.den] 26)
    have EG := (RatAt.newv (n := U3.num) (d := U3.den) (W := w32) rfl).alloc (.cells #[.int .i64 V3.num, .int .i64 V3.den] 26)
    have FG : RatAt ((w32.alloc (.cells #[.int .i64 U3.num, .int .i64 U3.den] 26)).alloc (.cells #[.int .i64 V3.num, .int .i64 V3.den] 26)) (w32.heap.size + 1) V3.num V3.den := RatAt.newv1 rfl
    replace hb := rat_trans hb hup
    clear hup
    generalize hW : ((w32.alloc (.cells #[.int .i64 U3.num, .int .i64 U3.den] 26)).alloc (.cells #[.int .i64 V3.num, .int .i64 V3.den] 26)) = W9 at EG FG hb ⊢
    clear hW
    generalize w32.heap.size = G at EG FG ⊢
    have HK : Hid (∀ W, Below W9.heap.size W9 W → W.cell? ⟨G, 0, none⟩ = some (.int .i64 U3.num) ∧ W.cell? ⟨G, 1, none⟩ = some (.int .i64 U3.den) ∧ W.cell? ⟨G + 1, 0, none⟩ = some (.int .i64 V3.num) ∧ W.cell? ⟨G + 1, 1, none⟩ = some (.int .i64 V3.den) ∧ W.cell? ⟨b, off + k * 3 + 1, none⟩ = some (.int .i64 (L k)) ∧ W.cell? ⟨b, off + k * 3 + 2, none⟩ = some (.int .i64 (H k))) :=
      hide fun W h => ⟨(EG.step h).cells.1, (EG.step h).cells.2.1, (FG.step h).cells.1, (FG.step h).cells.2.1, (HS.out W (rat_trans hb h) k hk).2.1, (HS.out W (rat_trans hb h) k hk).2.2⟩
    have K1 : Hid (∀ W, Below W9.heap.size W9 W → Calls Try.prog 26 #[.agg #[.int .i64 U3.num, .int .i64 U3.den]] W fun e w' => e = .returned (.bool true) ∧ Below W9.heap.size W9 w') := hide fun W h => (R9.out W).mono fun _ _ q => ⟨q.1, rat_trans h q.2⟩
    have K2 : Hid (∀ W, Below W9.heap.size W9 W → Calls Try.prog 26 #[.agg #[.int .i64 V3.num, .int .i64 V3.den]] W fun e w' => e = .returned (.bool true) ∧ Below W9.heap.size W9 w') := hide fun W h => (R10.out W).mono fun _ _ q => ⟨q.1, rat_trans h q.2⟩
    have K3 : Hid (∀ W, Below W9.heap.size W9 W → Calls Try.prog 27 #[.agg #[.int .i64 U3.num, .int .i64 U3.den], .agg #[.int .i64 (L k), .int .i64 1]] W fun e w' => e = .returned (.bool false) ∧ Below W9.heap.size W9 w') := hide fun W h => (L5.out W).mono fun _ _ q => ⟨q.1, rat_trans h q.2⟩
    have K4 : Hid (∀ W, Below W9.heap.size W9 W → Calls Try.prog 27 #[.agg #[.int .i64 (H k), .int .i64 1], .agg #[.int .i64 V3.num, .int .i64 V3.den]] W fun e w' => e = .returned (.bool false) ∧ Below W9.heap.size W9 w') := hide fun W h => (L6.out W).mono fun _ _ q => ⟨q.1, rat_trans h q.2⟩
    have K5 : Hid (∀ W, Below W9.heap.size W9 W → Calls Try.prog 11 #[] W fun e w' => e = .returned (.bool true) ∧ Below W9.heap.size W9 w') := hide fun W h => (CW.out W).mono fun _ _ q => ⟨q.1, rat_trans h q.2⟩
    have HB9 := hide hb
    clear R9 R10 L5 L6 CW EG FG hb
    go_upto_region 13 with fail
    have hne := lt_some W9
    have y0 := fun V : Lt W9 => (HK.out _ V.h).1
    have y1 := fun V : Lt W9 => (HK.out _ V.h).2.1
    have y2 := fun V : Lt W9 => (HK.out _ V.h).2.2.1
    have y3 := fun V : Lt W9 => (HK.out _ V.h).2.2.2.1
    have y4 := fun V : Lt W9 => (HK.out _ V.h).2.2.2.2.1
    have y5 := fun V : Lt W9 => (HK.out _ V.h).2.2.2.2.2
    refine region_lt W9 (by kernel_rfl) (by kernel_rfl) (Below.refl _ _) ?_
    repeat (first | go_big_quiet_step (first | (go_at_call 26; with_reducible exact call_lt (K1.out _ (Lt.h _))) | (go_at_call 26; with_reducible exact call_lt (K2.out _ (Lt.h _))) | (go_at_call 27; with_reducible exact call_lt (K3.out _ (Lt.h _))) | (go_at_call 27; with_reducible exact call_lt (K4.out _ (Lt.h _))) | (go_at_call 11; with_reducible exact call_lt (K5.out _ (Lt.h _)))) | quiet_step (first | (go_at_call 26; with_reducible exact call_lt (K1.out _ (Lt.h _))) | (go_at_call 26; with_reducible exact call_lt (K2.out _ (Lt.h _))) | (go_at_call 27; with_reducible exact call_lt (K3.out _ (Lt.h _))) | (go_at_call 27; with_reducible exact call_lt (K4.out _ (Lt.h _))) | (go_at_call 11; with_reducible exact call_lt (K5.out _ (Lt.h _)))))
    refine wpQuiet_nil ?_
    intro _ hw'
    obtain ⟨V, rfl⟩ := hw'
    have HBV := hide (rat_trans HB9.out V.h)
    clear y0 y1 y2 y3 y4 y5 hne K1 K2 K3 K4 K5
    go_wp2
    go_ret
    exact ⟨rfl, HBV.out⟩
end Go.Proofs.Ytjjhdigbgmbmnaa.Skw
