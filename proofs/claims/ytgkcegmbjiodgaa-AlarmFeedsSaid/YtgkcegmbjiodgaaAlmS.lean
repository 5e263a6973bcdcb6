/- The contract of the reference's Feed (layer 49). -/
import Derived.Test.YtgkcegmbjiodgaaAlmR
import Derived.Test.YtgkcegmbjiodgaaQuiet
namespace Go.Proofs.Ytgkcegmbjiodgaa.AlmW
open Go.RowKit Alm Aid App
/-- what is known of the reference's alarm -/
def RSt (w : World) (g base : Nat) (c : Conf) (s : St) (K : Nat) : Prop := ∃ an v m A V, RefAt w g c s an v ∧ w.ownsRow base 53 2 v m (flat A V m) ∧ RInv c s an V m K
def RFed (w : World) (g base : Nat) (c : Conf) (s : St) (K : Nat) (n e : Int) (E : Ending) (w' : World) : Prop := E = .returned (.tuple #[.int .i64 n, .int .i64 e]) ∧ Kp (· = g) base w w' ∧ RSt w' g base c s K
theorem RSt.new {w : World} {g base : Nat} {c : Conf} (h : RefAt w g c St.new false (.slice none 0 0)) : RSt w g base c St.new 0 :=
  ⟨false, _, 0, fun _ => 0, fun _ => 0, h, World.ownsRow_nil _ _ _ _, RInv.new c⟩
theorem RefAt.step {w w' : World} {g : Nat} {c : Conf} {s : St} {an : Bool} {v : Value} (h : RefAt w g c s an v) (hb : Below w.heap.size w w') : RefAt w' g c s an v := (hb.block g h.lt).trans h
theorem own_step {w w' : World} {base size n : Nat} {e : TypeId} {v : Value} {xs : List Value} (h : w.ownsRow base e size v n xs) (hb : Below w.heap.size w w') : w'.ownsRow base e size v n xs :=
  h.kept (row := none) ⟨hb.os, hb.tape, hb.output, hb.size, fun k hk _ => hb.block k hk⟩ (by cases v.ownBlock <;> simp)
theorem Kp.step {S : Nat → Prop} {B : Nat} {a b c : World} (h : Kp S B a b) (hb : Below b.heap.size b c) (hB : B ≤ b.heap.size) : Kp S B a c :=
  h.grown (row := none) ⟨hb.os, hb.tape, hb.output, hb.size, fun k hk _ => hb.block k hk⟩ hB (fun g q => by cases q)
theorem info_sample : (Try.prog.info? 53).map (fun i => (i.zero, i.size, i.bytes)) = some (some (.agg #[.int .i64 0, .int .i64 0]), 2, 16) := by kernel_rfl
set_option maxRecDepth 100000 in
set_option maxHeartbeats 3200000 in
theorem RFeed_err (g base : Nat) (c : Conf) (s : St) (K : Nat) (at_ u : Int) (w : World) (h : RSt w g base c s K) (he : err s at_ ≠ 0) :
    Calls Try.prog 16 #[.pointer (some ⟨g, 0, none⟩), .int .i64 at_, .int .i64 u] w (RFed w g base c s K 0 (err s at_)) := by
  obtain ⟨an, v, m, A, V, hr, ho, hi⟩ := h
  obtain ⟨_, _, _, _, _, _, c6, _, c8, _, _, _, _, _⟩ := hr.cells
  have H := hide (show RSt w g base c s K from ⟨an, v, m, A, V, hr, ho, hi⟩)
  have ha := hi.a
  clear hr ho hi
  by_cases h1 : at_ < 0
  · have e : err s at_ = 3 := by unfold err; rw [if_pos (.inl h1)]
    rw [e]
    clear e he ha
    go_enter Try.func16, Try.ntmps16
    go_wp2
    go_ret2
    exact ⟨rfl, Kp.refl _ _ _, H.out⟩
  by_cases h2 : 1125899906842624 < at_
  · have e : err s at_ = 3 := by unfold err; rw [if_pos (.inr h2)]
    rw [e]
    clear e he ha
    go_enter Try.func16, Try.ntmps16
    go_wp2
    go_ret2
    exact ⟨rfl, Kp.refl _ _ _, H.out⟩
  · have h3 : at_ < s.last := by
      unfold err at he
      rw [if_neg (by omega)] at he
      split at he
      · assumption
      · omega
    have e : err s at_ = 12 := by unfold err; rw [if_neg (by omega), if_pos h3]
    rw [e]
    obtain rfl : an = true := by
      cases an
      · have := ha rfl
        omega
      · rfl
    clear e he ha
    go_enter Try.func16, Try.ntmps16
    go_wp2
    go_ret2
    exact ⟨rfl, Kp.refl _ _ _, H.out⟩
set_option maxRecDepth 100000 in
set_option maxHeartbeats 12800000 in
theorem RFeed_fine (g base : Nat) (c : Conf) (s : St) (K : Nat) (at_ u : Int) (w : World) (h : RSt w g base c s K) (hg : g < base) (hb : base ≤ w.heap.size) (hs : Sz s K) (hK : K ≤ 900) (i1 : 0 ≤ at_) (i2 : at_ ≤ 1125899906842624) (i3 : s.last ≤ at_) :
    Calls Try.prog 16 #[.pointer (some ⟨g, 0, none⟩), .int .i64 at_, .int .i64 u] w (RFed w g base c (next c s at_ u) (K + 1) (kind c s at_ u) 0) := by
  obtain ⟨an, v, m, A, V, hr, ho, hi⟩ := h
  obtain ⟨last, high, low, raised, since, noti, raises, clears, repeats⟩ := s
  obtain ⟨p0, cap0, hv0, _⟩ := own_list ho
  subst hv0
  obtain ⟨iH, iL, ia, ik⟩ := hi
  have q5 : 0 ≤ raises := hs.ra1
  have q6 : raises ≤ K := hs.ra2
  have q7 : 0 ≤ clears := hs.cl1
  have q8 : clears ≤ K := hs.cl2
  have q9 : 0 ≤ repeats := hs.re1
  have q10 : repeats ≤ K := hs.re2
  have q11 : 0 ≤ noti := hs.noti1
  have q12 : noti ≤ last := hs.noti2
  dsimp only at iH iL ia i3
  have i3q : last ≤ at_ := i3
  have eH := rn_upd (fun x => decide (c.hi < x)) V m u
  have eL := rn_upd (fun x => decide (x < c.lo)) V m u
  rw [← iH] at eH
  rw [← iL] at eL
  obtain ⟨H, hH⟩ : ∃ H, H = ext high (decide (c.hi < u)) := ⟨_, rfl⟩
  obtain ⟨L, hL⟩ : ∃ L, L = ext low (decide (u < c.lo)) := ⟨_, rfl⟩
  have HN : Hid (∀ r, kind c ⟨last, high, low, r, since, noti, raises, clears, repeats⟩ at_ u = (if r = false ∧ c.hold ≤ H then 1 else if r = true ∧ c.clr ≤ L then 2 else if r = true ∧ c.hi < u ∧ c.sil ≤ at_ - noti then 3 else 0)) := hide fun r => by rw [hH, hL]; rfl
  have HX : Hid (∀ r, HH c ⟨last, high, low, r, since, noti, raises, clears, repeats⟩ u = H ∧ LL c ⟨last, high, low, r, since, noti, raises, clears, repeats⟩ u = L) := hide fun r => ⟨hH.symm, hL.symm⟩
  rw [← hH] at eH
  rw [← hL] at eL
  have A1 : RefAt ((w.setCell ⟨g, 6, none⟩ (.bool true)).setCell ⟨g, 8, none⟩ (.int .i64 at_)) g c ⟨at_, high, low, raised, since, noti, raises, clears, repeats⟩ true (.slice p0 m cap0) := set_block (set_block hr _ _) _ _
  have O1 : ((w.setCell ⟨g, 6, none⟩ (.bool true)).setCell ⟨g, 8, none⟩ (.int .i64 at_)).ownsRow base 53 2 (.slice p0 m cap0) m (flat A V m) := ownsRow_setCell_below (ownsRow_setCell_below ho (by exact hg) _) (by exact hg) _
  have G1 : Kp (· = g) base w ((w.setCell ⟨g, 6, none⟩ (.bool true)).setCell ⟨g, 8, none⟩ (.int .i64 at_)) := ((Kp.refl (· = g) base w).setCell (.inl rfl) _).setCell (.inl rfl) _
  have z1 : base ≤ ((w.setCell ⟨g, 6, none⟩ (.bool true)).setCell ⟨g, 8, none⟩ (.int .i64 at_)).heap.size := by simpa [World.setCell] using hb
  obtain ⟨_, _, _, _, _, _, c6, _, c8, _, _, _, _, _⟩ := hr.cells
  have f6 := hr.free 6
  have f8 := hr.free 8
  obtain ⟨i0, hi0, hz0, hz1, hz2⟩ := info_parts info_sample
  have HI0 := hide hi0
  have HZ0 := hide hz0
  have HZ1 := hide hz1
  have HZ2 := hide hz2
  have HEH := hide eH
  have HEL := hide eL
  have hL0 : an = true ∨ last = 0 := by
    cases an
    · exact .inr (ia rfl)
    · exact .inl rfl
  have hor : (an && decide (at_ < last)) = false := by
    rcases hL0 with rfl | h0 <;> simp <;> omega
  have ho2 : an = true → ¬ at_ < last := by intro _; omega
  clear hi0 hz0 hz1 hz2 hs hH hL iH iL eH eL ia hr ho hL0
  go_enter Try.func16, Try.ntmps16
  go_upto_region 5 with fail
  go_cut [18] (fun c wx => c = .bool false ∧ wx = w)
  case first =>
    cases an
    · go_wp2
      go_meet
      exact ⟨rfl, rfl⟩
    · have hq : decide (at_ < last) = false := by simp; omega
      go_wp2
      go_meet
      exact ⟨by first | rfl | (simp; done) | (simp; omega), rfl⟩
  obtain ⟨hc1, hc2⟩ := hcut
  have hc2 := hc2.symm
  subst hc1
  subst hc2
  clear ho2 hor
  go_upto_region 9 with fail
  clear c6 c8 f6 f8
  change Code.wp _ _ _ _ ((w.setCell ⟨g, 6, none⟩ (.bool true)).setCell ⟨g, 8, none⟩ (.int .i64 at_))
  generalize ((w.setCell ⟨g, 6, none⟩ (.bool true)).setCell ⟨g, 8, none⟩ (.int .i64 at_)) = W1 at *
  obtain ⟨_, _, _, _, _, c5, _, _, _, _, _, _, _, _⟩ := A1.cells
  have f5 := A1.free 5
  have HA1 := hide A1
  have HO1 := hide O1
  have HG1 := hide G1
  clear A1 O1 G1
  go_upto_region 10 with (at_builtin; (refine wpList_app _ rfl _ _ 48 rfl base 53 i0 _ 2 16 Try.underlying48 HI0.out HZ0.out HZ1.out HZ2.out rfl (by decide) (.slice p0 m cap0) m (flat A V m) rfl (HO1.out.alloc _) _ 1 _ [.int .i64 at_, .int .i64 u] rfl (src_block (heap_alloc_new W1 _) rfl) (by intro x hx; simp at hx; rcases hx with rfl | rfl <;> rfl) (by unfold maxLen; omega) (by omega) (by simp; omega) ?_))
  intro v5 w5 own5 g5 d5
  rw [flat_upd] at own5
  obtain ⟨p5, cap5, hv5, _⟩ := own_list own5
  subst hv5
  have hgb : ∀ k, (Value.slice p0 m cap0).ownBlock = some k → k = g ∨ base ≤ k := fun k hk => .inr (HO1.out.lt k hk).1
  have G2 : Kp (· = g) base w w5 := (HG1.out.alloc z1 _).grown g5 (by simp; omega) hgb
  have A2 : RefAt w5 g c ⟨at_, high, low, raised, since, noti, raises, clears, repeats⟩ true (.slice p0 m cap0) := by
    have hlt := HA1.out.lt
    refine (g5.block g (by simp; omega) (fun e => ?_)).trans ((heap_alloc_old W1 _ hlt).trans HA1.out)
    have := (HO1.out.lt g e.symm).1
    omega
  have z2 : base ≤ w5.heap.size := by have := g5.size; simp at this; omega
  obtain ⟨_, _, _, _, _, c5', _, _, _, _, _, _, _, _⟩ := A2.cells
  have f5' := A2.free 5
  have A3 : RefAt (w5.setCell ⟨g, 5, none⟩ (.slice p5 (m + 1) cap5)) g c ⟨at_, high, low, raised, since, noti, raises, clears, repeats⟩ true (.slice p5 (m + 1) cap5) := set_block A2 _ _
  have O3 : (w5.setCell ⟨g, 5, none⟩ (.slice p5 (m + 1) cap5)).ownsRow base 53 2 (.slice p5 (m + 1) cap5) (m + 1) (flat (upd A m at_) (upd V m u) (m + 1)) :=
    ownsRow_setCell_below own5 (by exact hg) _
  have G3 : Kp (· = g) base w (w5.setCell ⟨g, 5, none⟩ (.slice p5 (m + 1) cap5)) := G2.setCell (.inl rfl) _
  have z3 : base ≤ (w5.setCell ⟨g, 5, none⟩ (.slice p5 (m + 1) cap5)).heap.size := by simpa [World.setCell] using z2
  have HA3 := hide A3
  have HO3 := hide O3
  have HG3 := hide G3
  clear A2 G2 g5 d5 own5 c5 f5 HA1 HO1 HG1 A3 O3 G3 hgb
  go_upto_region 10 with fail
  clear c5' f5'
  change Code.wp _ _ _ _ (w5.setCell ⟨g, 5, none⟩ (.slice p5 (m + 1) cap5))
  generalize (w5.setCell ⟨g, 5, none⟩ (.slice p5 (m + 1) cap5)) = W2 at *
  obtain ⟨p, cap, hv, hl⟩ := own_list HO3.out
  obtain ⟨rfl, rfl⟩ : p5 = p ∧ cap5 = cap := by cases hv; exact ⟨rfl, rfl⟩
  clear hv
  have CH := hide (fun W (b : Below W2.heap.size W2 W) => (high_any g c _ true p5 cap5 (m + 1) (upd V m u) W (HA3.out.step b) (by omega) (fun h0 => by obtain ⟨b0, e, _, hlt, hc⟩ := hl h0; exact ⟨b0, e, fun i hi => (b.cell (p := ⟨b0, i * 2 + 1, none⟩) hlt).trans (hc i hi).2⟩)).mono fun e w' (q : _ ∧ ∃ z, w' = W.drewN z) => (show e = .returned (.int .i64 H) ∧ Below W2.heap.size W2 w' from ⟨by rw [← HEH.out]; exact q.1, by obtain ⟨z, rfl⟩ := q.2; exact below_drewN b z⟩))
  have CL := hide (fun W (b : Below W2.heap.size W2 W) => (low_any g c _ true p5 cap5 (m + 1) (upd V m u) W (HA3.out.step b) (by omega) (fun h0 => by obtain ⟨b0, e, _, hlt, hc⟩ := hl h0; exact ⟨b0, e, fun i hi => (b.cell (p := ⟨b0, i * 2 + 1, none⟩) hlt).trans (hc i hi).2⟩)).mono fun e w' (q : _ ∧ ∃ z, w' = W.drewN z) => (show e = .returned (.int .i64 L) ∧ Below W2.heap.size W2 w' from ⟨by rw [← HEL.out]; exact q.1, by obtain ⟨z, rfl⟩ := q.2; exact below_drewN b z⟩))
  have HC := hide (fun V (b : Below W2.heap.size W2 V) => (by obtain ⟨c0, c1, c2, c3, c4, c5, c6, c7, c8, c9, c10, c11, c12, c13⟩ := (HA3.out.step b).cells; exact ⟨c0, c1, c2, c3, c4, c5, c6, c7, c8, c9, c10, c11, c12, c13, (HA3.out.step b).free, b⟩ : _ ∧ _ ∧ _ ∧ _ ∧ _ ∧ _ ∧ _ ∧ _ ∧ _ ∧ _ ∧ _ ∧ _ ∧ _ ∧ _ ∧ (∀ i, V.frozen? ⟨g, i, none⟩ = false) ∧ Below W2.heap.size W2 V))
  have hb2 := Below.refl W2.heap.size W2
  clear hl
  cases raised
  · by_cases hh : c.hold ≤ H
    · have ek : kind c ⟨last, high, low, false, since, noti, raises, clears, repeats⟩ at_ u = 1 := by rw [HN.out, if_pos ⟨rfl, hh⟩]
      have en : next c ⟨last, high, low, false, since, noti, raises, clears, repeats⟩ at_ u = ⟨at_, 0, 0, true, at_, at_, raises + 1, clears, repeats⟩ := by unfold next; rw [if_pos ek]
      have HEK := hide ek
      have HEN := hide en
      clear ek en
      go_wp2_with fail
      have hne := lt_some W2
      have y7 := fun V : Lt W2 => (HC.out _ V.h).2.2.2.2.2.2.2.1
      have y2 := fun V : Lt W2 => (HC.out _ V.h).2.2.1
      refine region_lt W2 (by kernel_rfl) (by kernel_rfl) (by assumption) ?_
      repeat (first | go_big_quiet_step (first | (go_at_call 25; with_reducible exact call_lt (CH.out _ (Lt.h _)))) | quiet_step (first | (go_at_call 25; with_reducible exact call_lt (CH.out _ (Lt.h _)))))
      refine wpQuiet_nil ?_
      intro _ hw'
      obtain ⟨V, rfl⟩ := hw'
      have bV := V.h
      clear hb2 hne y7 y2
      obtain ⟨W3, hW3⟩ : ∃ W3, W3 = V.w := ⟨_, rfl⟩
      rw [← hW3] at bV ⊢
      clear hW3 V
      have hb2 := bV
      clear bV
      obtain ⟨c0, c1, c2, c3, c4, c5, c6, c7, c8, c9, c10, c11, c12, c13, ff, _⟩ := HC.out _ hb2
      go_wp2
      go_ret2
      unfold RFed
      rw [HEK.out, HEN.out]
      exact ⟨rfl, ((((((HG3.out.step hb2 z3).setCell (.inl rfl) _).setCell (.inl rfl) _).setCell (.inl rfl) _).setCell (.inl rfl) _).setCell (.inl rfl) _), ⟨true, .slice none 0 0, 0, fun _ => 0, fun _ => 0, (set_block (set_block (set_block (set_block (set_block (HA3.out.step hb2) _ _) _ _) _ _) _ _) _ _), World.ownsRow_nil _ _ _ _, ⟨rfl, rfl, (fun q => by cases q), by omega⟩⟩⟩
    · have hh2 : H < c.hold := by omega
      have ek : kind c ⟨last, high, low, false, since, noti, raises, clears, repeats⟩ at_ u = 0 := by rw [HN.out, if_neg (fun q => hh q.2), if_neg (fun q => by cases q.1), if_neg (fun q => by cases q.1)]
      have en : next c ⟨last, high, low, false, since, noti, raises, clears, repeats⟩ at_ u = ⟨at_, H, L, false, since, noti, raises, clears, repeats⟩ := by unfold next; rw [if_neg (by omega), if_neg (by omega), if_neg (by omega), (HX.out _).1, (HX.out _).2]
      have HEK := hide ek
      have HEN := hide en
      clear ek en
      go_wp2_with fail
      have hne := lt_some W2
      have y7 := fun V : Lt W2 => (HC.out _ V.h).2.2.2.2.2.2.2.1
      have y2 := fun V : Lt W2 => (HC.out _ V.h).2.2.1
      refine region_lt W2 (by kernel_rfl) (by kernel_rfl) (by assumption) ?_
      repeat (first | go_big_quiet_step (first | (go_at_call 25; with_reducible exact call_lt (CH.out _ (Lt.h _)))) | quiet_step (first | (go_at_call 25; with_reducible exact call_lt (CH.out _ (Lt.h _)))))
      refine wpQuiet_nil ?_
      intro _ hw'
      obtain ⟨V, rfl⟩ := hw'
      have bV := V.h
      clear hb2 hne y7 y2
      obtain ⟨W3, hW3⟩ : ∃ W3, W3 = V.w := ⟨_, rfl⟩
      rw [← hW3] at bV ⊢
      clear hW3 V
      have hb2 := bV
      clear bV
      go_wp2_with fail
      have hne := lt_some W2
      have y7 := fun V : Lt W2 => (HC.out _ V.h).2.2.2.2.2.2.2.1
      refine region_lt W2 (by kernel_rfl) (by kernel_rfl) (by assumption) ?_
      repeat (first | go_big_quiet_step (fail) | quiet_step (fail))
      refine wpQuiet_nil ?_
      intro _ hw'
      obtain ⟨V, rfl⟩ := hw'
      have bV := V.h
      clear hb2 hne y7
      obtain ⟨W3, hW3⟩ : ∃ W3, W3 = V.w := ⟨_, rfl⟩
      rw [← hW3] at bV ⊢
      clear hW3 V
      have hb2 := bV
      clear bV
      go_wp2_with fail
      have hne := lt_some W2
      have y7 := fun V : Lt W2 => (HC.out _ V.h).2.2.2.2.2.2.2.1
      refine region_lt W2 (by kernel_rfl) (by kernel_rfl) (by assumption) ?_
      repeat (first | go_big_quiet_step (fail) | quiet_step (fail))
      refine wpQuiet_nil ?_
      intro _ hw'
      obtain ⟨V, rfl⟩ := hw'
      have bV := V.h
      clear hb2 hne y7
      obtain ⟨W3, hW3⟩ : ∃ W3, W3 = V.w := ⟨_, rfl⟩
      rw [← hW3] at bV ⊢
      clear hW3 V
      have hb2 := bV
      clear bV
      obtain ⟨c0, c1, c2, c3, c4, c5, c6, c7, c8, c9, c10, c11, c12, c13, ff, _⟩ := HC.out _ hb2
      go_wp2
      go_ret2
      unfold RFed
      rw [HEK.out, HEN.out]
      exact ⟨rfl, (HG3.out.step hb2 z3), ⟨true, _, m + 1, upd A m at_, upd V m u, (HA3.out.step hb2), (own_step HO3.out hb2), ⟨HEH.out.symm, HEL.out.symm, (fun q => by cases q), by omega⟩⟩⟩
  · by_cases hh : c.clr ≤ L
    · have ek : kind c ⟨last, high, low, true, since, noti, raises, clears, repeats⟩ at_ u = 2 := by rw [HN.out, if_neg (fun q => by cases q.1), if_pos ⟨rfl, hh⟩]
      have en : next c ⟨last, high, low, true, since, noti, raises, clears, repeats⟩ at_ u = ⟨at_, 0, 0, false, 0, at_, raises, clears + 1, repeats⟩ := by unfold next; rw [if_neg (by omega), if_pos ek]
      have HEK := hide ek
      have HEN := hide en
      clear ek en
      go_wp2_with fail
      have hne := lt_some W2
      have y7 := fun V : Lt W2 => (HC.out _ V.h).2.2.2.2.2.2.2.1
      refine region_lt W2 (by kernel_rfl) (by kernel_rfl) (by assumption) ?_
      repeat (first | go_big_quiet_step (fail) | quiet_step (fail))
      refine wpQuiet_nil ?_
      intro _ hw'
      obtain ⟨V, rfl⟩ := hw'
      have bV := V.h
      clear hb2 hne y7
      obtain ⟨W3, hW3⟩ : ∃ W3, W3 = V.w := ⟨_, rfl⟩
      rw [← hW3] at bV ⊢
      clear hW3 V
      have hb2 := bV
      clear bV
      go_wp2_with fail
      have hne := lt_some W2
      have y7 := fun V : Lt W2 => (HC.out _ V.h).2.2.2.2.2.2.2.1
      have y3 := fun V : Lt W2 => (HC.out _ V.h).2.2.2.1
      refine region_lt W2 (by kernel_rfl) (by kernel_rfl) (by assumption) ?_
      repeat (first | go_big_quiet_step (first | (go_at_call 26; with_reducible exact call_lt (CL.out _ (Lt.h _)))) | quiet_step (first | (go_at_call 26; with_reducible exact call_lt (CL.out _ (Lt.h _)))))
      refine wpQuiet_nil ?_
      intro _ hw'
      obtain ⟨V, rfl⟩ := hw'
      have bV := V.h
      clear hb2 hne y7 y3
      obtain ⟨W3, hW3⟩ : ∃ W3, W3 = V.w := ⟨_, rfl⟩
      rw [← hW3] at bV ⊢
      clear hW3 V
      have hb2 := bV
      clear bV
      obtain ⟨c0, c1, c2, c3, c4, c5, c6, c7, c8, c9, c10, c11, c12, c13, ff, _⟩ := HC.out _ hb2
      go_wp2
      go_ret2
      unfold RFed
      rw [HEK.out, HEN.out]
      exact ⟨rfl, ((((((HG3.out.step hb2 z3).setCell (.inl rfl) _).setCell (.inl rfl) _).setCell (.inl rfl) _).setCell (.inl rfl) _).setCell (.inl rfl) _), ⟨true, .slice none 0 0, 0, fun _ => 0, fun _ => 0, (set_block (set_block (set_block (set_block (set_block (HA3.out.step hb2) _ _) _ _) _ _) _ _) _ _), World.ownsRow_nil _ _ _ _, ⟨rfl, rfl, (fun q => by cases q), by omega⟩⟩⟩
    · have hh2 : L < c.clr := by omega
      by_cases hv : c.hi < u
      · by_cases hq : c.sil ≤ at_ - noti
        · have ek : kind c ⟨last, high, low, true, since, noti, raises, clears, repeats⟩ at_ u = 3 := by rw [HN.out, if_neg (fun q => by cases q.1), if_neg (fun q => hh q.2), if_pos ⟨rfl, hv, hq⟩]
          have en : next c ⟨last, high, low, true, since, noti, raises, clears, repeats⟩ at_ u = ⟨at_, H, L, true, since, at_, raises, clears, repeats + 1⟩ := by unfold next; rw [if_neg (by omega), if_neg (by omega), if_pos ek, (HX.out _).1, (HX.out _).2]
          have HEK := hide ek
          have HEN := hide en
          clear ek en
          go_wp2_with fail
          have hne := lt_some W2
          have y7 := fun V : Lt W2 => (HC.out _ V.h).2.2.2.2.2.2.2.1
          refine region_lt W2 (by kernel_rfl) (by kernel_rfl) (by assumption) ?_
          repeat (first | go_big_quiet_step (fail) | quiet_step (fail))
          refine wpQuiet_nil ?_
          intro _ hw'
          obtain ⟨V, rfl⟩ := hw'
          have bV := V.h
          clear hb2 hne y7
          obtain ⟨W3, hW3⟩ : ∃ W3, W3 = V.w := ⟨_, rfl⟩
          rw [← hW3] at bV ⊢
          clear hW3 V
          have hb2 := bV
          clear bV
          go_wp2_with fail
          have hne := lt_some W2
          have y7 := fun V : Lt W2 => (HC.out _ V.h).2.2.2.2.2.2.2.1
          have y3 := fun V : Lt W2 => (HC.out _ V.h).2.2.2.1
          refine region_lt W2 (by kernel_rfl) (by kernel_rfl) (by assumption) ?_
          repeat (first | go_big_quiet_step (first | (go_at_call 26; with_reducible exact call_lt (CL.out _ (Lt.h _)))) | quiet_step (first | (go_at_call 26; with_reducible exact call_lt (CL.out _ (Lt.h _)))))
          refine wpQuiet_nil ?_
          intro _ hw'
          obtain ⟨V, rfl⟩ := hw'
          have bV := V.h
          clear hb2 hne y7 y3
          obtain ⟨W3, hW3⟩ : ∃ W3, W3 = V.w := ⟨_, rfl⟩
          rw [← hW3] at bV ⊢
          clear hW3 V
          have hb2 := bV
          clear bV
          go_wp2_with fail
          have hne := lt_some W2
          have y7 := fun V : Lt W2 => (HC.out _ V.h).2.2.2.2.2.2.2.1
          have y0 := fun V : Lt W2 => (HC.out _ V.h).1
          have y9 := fun V : Lt W2 => (HC.out _ V.h).2.2.2.2.2.2.2.2.2.1
          have y4 := fun V : Lt W2 => (HC.out _ V.h).2.2.2.2.1
          refine region_lt W2 (by kernel_rfl) (by kernel_rfl) (by assumption) ?_
          repeat (first | go_big_quiet_step (fail) | quiet_step (fail))
          refine wpQuiet_nil ?_
          intro _ hw'
          obtain ⟨V, rfl⟩ := hw'
          have bV := V.h
          clear hb2 hne y7 y0 y9 y4
          obtain ⟨W3, hW3⟩ : ∃ W3, W3 = V.w := ⟨_, rfl⟩
          rw [← hW3] at bV ⊢
          clear hW3 V
          have hb2 := bV
          clear bV
          obtain ⟨c0, c1, c2, c3, c4, c5, c6, c7, c8, c9, c10, c11, c12, c13, ff, _⟩ := HC.out _ hb2
          go_wp2
          go_ret2
          unfold RFed
          rw [HEK.out, HEN.out]
          exact ⟨rfl, (((HG3.out.step hb2 z3).setCell (.inl rfl) _).setCell (.inl rfl) _), ⟨true, _, m + 1, upd A m at_, upd V m u, (set_block (set_block (HA3.out.step hb2) _ _) _ _), (ownsRow_setCell_below (ownsRow_setCell_below (own_step HO3.out hb2) (by exact hg) _) (by exact hg) _), ⟨HEH.out.symm, HEL.out.symm, (fun q => by cases q), by omega⟩⟩⟩
        · have hq2 : at_ - noti < c.sil := by omega
          have ek : kind c ⟨last, high, low, true, since, noti, raises, clears, repeats⟩ at_ u = 0 := by rw [HN.out, if_neg (fun q => by cases q.1), if_neg (fun q => hh q.2), if_neg (fun q => hq q.2.2)]
          have en : next c ⟨last, high, low, true, since, noti, raises, clears, repeats⟩ at_ u = ⟨at_, H, L, true, since, noti, raises, clears, repeats⟩ := by unfold next; rw [if_neg (by omega), if_neg (by omega), if_neg (by omega), (HX.out _).1, (HX.out _).2]
          have HEK := hide ek
          have HEN := hide en
          clear ek en
          go_wp2_with fail
          have hne := lt_some W2
          have y7 := fun V : Lt W2 => (HC.out _ V.h).2.2.2.2.2.2.2.1
          refine region_lt W2 (by kernel_rfl) (by kernel_rfl) (by assumption) ?_
          repeat (first | go_big_quiet_step (fail) | quiet_step (fail))
          refine wpQuiet_nil ?_
          intro _ hw'
          obtain ⟨V, rfl⟩ := hw'
          have bV := V.h
          clear hb2 hne y7
          obtain ⟨W3, hW3⟩ : ∃ W3, W3 = V.w := ⟨_, rfl⟩
          rw [← hW3] at bV ⊢
          clear hW3 V
          have hb2 := bV
          clear bV
          go_wp2_with fail
          have hne := lt_some W2
          have y7 := fun V : Lt W2 => (HC.out _ V.h).2.2.2.2.2.2.2.1
          have y3 := fun V : Lt W2 => (HC.out _ V.h).2.2.2.1
          refine region_lt W2 (by kernel_rfl) (by kernel_rfl) (by assumption) ?_
          repeat (first | go_big_quiet_step (first | (go_at_call 26; with_reducible exact call_lt (CL.out _ (Lt.h _)))) | quiet_step (first | (go_at_call 26; with_reducible exact call_lt (CL.out _ (Lt.h _)))))
          refine wpQuiet_nil ?_
          intro _ hw'
          obtain ⟨V, rfl⟩ := hw'
          have bV := V.h
          clear hb2 hne y7 y3
          obtain ⟨W3, hW3⟩ : ∃ W3, W3 = V.w := ⟨_, rfl⟩
          rw [← hW3] at bV ⊢
          clear hW3 V
          have hb2 := bV
          clear bV
          go_wp2_with fail
          have hne := lt_some W2
          have y7 := fun V : Lt W2 => (HC.out _ V.h).2.2.2.2.2.2.2.1
          have y0 := fun V : Lt W2 => (HC.out _ V.h).1
          have y9 := fun V : Lt W2 => (HC.out _ V.h).2.2.2.2.2.2.2.2.2.1
          have y4 := fun V : Lt W2 => (HC.out _ V.h).2.2.2.2.1
          refine region_lt W2 (by kernel_rfl) (by kernel_rfl) (by assumption) ?_
          repeat (first | go_big_quiet_step (fail) | quiet_step (fail))
          refine wpQuiet_nil ?_
          intro _ hw'
          obtain ⟨V, rfl⟩ := hw'
          have bV := V.h
          clear hb2 hne y7 y0 y9 y4
          obtain ⟨W3, hW3⟩ : ∃ W3, W3 = V.w := ⟨_, rfl⟩
          rw [← hW3] at bV ⊢
          clear hW3 V
          have hb2 := bV
          clear bV
          obtain ⟨c0, c1, c2, c3, c4, c5, c6, c7, c8, c9, c10, c11, c12, c13, ff, _⟩ := HC.out _ hb2
          go_wp2
          go_ret2
          unfold RFed
          rw [HEK.out, HEN.out]
          exact ⟨rfl, (HG3.out.step hb2 z3), ⟨true, _, m + 1, upd A m at_, upd V m u, (HA3.out.step hb2), (own_step HO3.out hb2), ⟨HEH.out.symm, HEL.out.symm, (fun q => by cases q), by omega⟩⟩⟩
      · have hv3 : decide (c.hi < u) = false := by simp; omega
        have HVV := hide hv
        clear hv
        have ek : kind c ⟨last, high, low, true, since, noti, raises, clears, repeats⟩ at_ u = 0 := by rw [HN.out, if_neg (fun q => by cases q.1), if_neg (fun q => hh q.2), if_neg (fun q => HVV.out q.2.1)]
        have en : next c ⟨last, high, low, true, since, noti, raises, clears, repeats⟩ at_ u = ⟨at_, H, L, true, since, noti, raises, clears, repeats⟩ := by unfold next; rw [if_neg (by omega), if_neg (by omega), if_neg (by omega), (HX.out _).1, (HX.out _).2]
        have HEK := hide ek
        have HEN := hide en
        clear ek en
        go_wp2_with fail
        have hne := lt_some W2
        have y7 := fun V : Lt W2 => (HC.out _ V.h).2.2.2.2.2.2.2.1
        refine region_lt W2 (by kernel_rfl) (by kernel_rfl) (by assumption) ?_
        repeat (first | go_big_quiet_step (fail) | quiet_step (fail))
        refine wpQuiet_nil ?_
        intro _ hw'
        obtain ⟨V, rfl⟩ := hw'
        have bV := V.h
        clear hb2 hne y7
        obtain ⟨W3, hW3⟩ : ∃ W3, W3 = V.w := ⟨_, rfl⟩
        rw [← hW3] at bV ⊢
        clear hW3 V
        have hb2 := bV
        clear bV
        go_wp2_with fail
        have hne := lt_some W2
        have y7 := fun V : Lt W2 => (HC.out _ V.h).2.2.2.2.2.2.2.1
        have y3 := fun V : Lt W2 => (HC.out _ V.h).2.2.2.1
        refine region_lt W2 (by kernel_rfl) (by kernel_rfl) (by assumption) ?_
        repeat (first | go_big_quiet_step (first | (go_at_call 26; with_reducible exact call_lt (CL.out _ (Lt.h _)))) | quiet_step (first | (go_at_call 26; with_reducible exact call_lt (CL.out _ (Lt.h _)))))
        refine wpQuiet_nil ?_
        intro _ hw'
        obtain ⟨V, rfl⟩ := hw'
        have bV := V.h
        clear hb2 hne y7 y3
        obtain ⟨W3, hW3⟩ : ∃ W3, W3 = V.w := ⟨_, rfl⟩
        rw [← hW3] at bV ⊢
        clear hW3 V
        have hb2 := bV
        clear bV
        go_wp2_with fail
        have hne := lt_some W2
        have y7 := fun V : Lt W2 => (HC.out _ V.h).2.2.2.2.2.2.2.1
        have y0 := fun V : Lt W2 => (HC.out _ V.h).1
        refine region_lt W2 (by kernel_rfl) (by kernel_rfl) (by assumption) ?_
        repeat (first | go_big_quiet_step (fail) | quiet_step (fail))
        refine wpQuiet_nil ?_
        intro _ hw'
        obtain ⟨V, rfl⟩ := hw'
        have bV := V.h
        clear hb2 hne y7 y0
        obtain ⟨W3, hW3⟩ : ∃ W3, W3 = V.w := ⟨_, rfl⟩
        rw [← hW3] at bV ⊢
        clear hW3 V
        have hb2 := bV
        clear bV
        obtain ⟨c0, c1, c2, c3, c4, c5, c6, c7, c8, c9, c10, c11, c12, c13, ff, _⟩ := HC.out _ hb2
        go_wp2
        go_ret2
        unfold RFed
        rw [HEK.out, HEN.out]
        exact ⟨rfl, (HG3.out.step hb2 z3), ⟨true, _, m + 1, upd A m at_, upd V m u, (HA3.out.step hb2), (own_step HO3.out hb2), ⟨HEH.out.symm, HEL.out.symm, (fun q => by cases q), by omega⟩⟩⟩
end Go.Proofs.Ytgkcegmbjiodgaa.AlmW
