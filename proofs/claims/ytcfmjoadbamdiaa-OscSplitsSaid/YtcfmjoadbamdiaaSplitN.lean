/- The walk of the law OscSplits where a segment is divided: it returns true. -/
import Derived.Test.YtcfmjoadbamdiaaSplitM
import Derived.Deep.RegionHeld3
namespace Go.Proofs.Ytcfmjoadbamdiaa.OscW
open Go.RowKit OscP Aid App
set_option maxRecDepth 100000 in
set_option maxHeartbeats 12800000 in
theorem Splits_lt (ph : Int) (a : Option Addr) (n cap : Nat) (A P : Nat → Int) (at_ t : Int) (w : World) (hr : SegsAt w a n A P) (hcap : n ≤ cap ∧ cap ≤ 9223372036854775807) (h1 : 1 ≤ at_) (h2 : at_ ≤ 1125899906842624) (hz : chk ph A P n = 0) (hn16 : n < 16)
    (K : Nat) (hK : K < n) (hKA : at_ < A K) (hK2 : ∀ j, j < K → A j < at_) :
    Calls Try.prog 4 #[.agg #[.int .i64 ph, .slice a n cap], .int .i64 at_, .int .i64 t] w fun e w' => e = .returned (.bool true) ∧ Below w.heap.size w w' := by
  have hn := hr.1
  have hB : w.heap.size + 1 ≤ (w.alloc (.cells #[.int .i64 ph, .slice a n cap] 24)).heap.size := by simp
  have C5 := hide (based hB fun W _ => awake_any W)
  have C3 := hide (based hB fun W h => Check_any ph a n cap A P W (hr.below (box_below h)))
  have KK := hide (box_cells (w := w) (x := .int .i64 ph) (y := .slice a n cap) (T := 24))
  have ok := chk_ok hz
  have e1 : (A K == at_) = false := by simp; omega
  have e2 : ¬ A K < at_ := by omega
  have hK1 : 1 ≤ K := by
    have a0 := ok.a0
    have n1 := ok.n1
    rcases Nat.eq_zero_or_pos K with h | h
    · subst h; omega
    · exact h
  have hKn : K ≤ n := by omega
  have hK3 : K < n → at_ < A K := fun h => by first | assumption | omega
  have hK0 : ((K : Int) == 0) = false := by simp; omega
  obtain ⟨b, off, rfl, hlt, hc⟩ := hr.at_ (by omega)
  rw [hz] at C3
  have HC := hide hc
  have H2 := hide hK2
  have HZ := hide hz
  have hp := ok.pin (K - 1) (by omega)
  obtain ⟨p1, p2⟩ := hp
  have HRD := hide (fun q (hq : q = P (K - 1) ∨ t ≤ at_) => rd_cut (ph := ph) (P := P) (q := q) (t := t) hK1 hKn (hK2 (K - 1) (by omega)) hK3 hq ok.inc)
  have HOK := hide (fun q (hq : -500000 ≤ q ∧ q ≤ 500000) => ok_chk (cut_ok (q := q) ok hn16 hK1 hKn (hK2 (K - 1) (by omega)) hK3 ⟨by omega, h2⟩ hq))
  have HR := hide hr
  have CR := hide (fun W (h : Below (w.heap.size + 1) (w.alloc (.cells #[.int .i64 ph, .slice (some ⟨b, off, none⟩) n cap] 24)) W) => Read_any ph (some ⟨b, off, none⟩) n cap A P t W (hr.below (box_below h)))
  clear hr hB hc hK2 hz ok
  go_enter Try.func4, Try.ntmps4
  go_wp2_with fail
  refine (C3.out _ (Below.refl _ _)).mono ?_
  rintro e w1 ⟨rfl, hb1⟩
  obtain ⟨k0, k1, hb⟩ := KK.out _ hb1
  clear hb1
  go_wp2
  go_loop [7] (fun i => ∃ k : Nat, k ≤ K ∧ i = .int .i64 k) (fun i => K - (intOf i).toNat)
  case atStart => exact ⟨0, by omega, rfl⟩
  case round =>
    obtain ⟨k, hk, rfl⟩ := hrel
    by_cases hk2 : k < K
    · have hc0 := ((box_below hb).cell (p := ⟨b, off + k * 2, none⟩) hlt).trans (HC.out k (by omega)).1
      have hA := H2.out k hk2
      have hkn : k < n := by omega
      go_wp2
      go_round
      case rel => exact ⟨k + 1, by omega, by go_num⟩
      case measure => simp [intOf]; omega
    · have e : k = K := by omega
      subst e
      have hc0 := ((box_below hb).cell (p := ⟨b, off + k * 2, none⟩) hlt).trans (HC.out k (by omega)).1
      have hkn : (k : Int) < (n : Int) := by omega
      have hcn : ¬ cap = k := by omega
      obtain ⟨hcap1, hcap2⟩ := hcap
      have b1 : (0 : Int) ≤ (k : Int) := by omega
      have b2 : (k : Int) ≤ (cap : Int) := by omega
      have b2' : (k : Int) ≤ (n : Int) := by omega
      have b2'' : (n : Int) ≤ (cap : Int) := by omega
      have b3 : IntKind.i64.wrap ((k : Int) - 1) = (k : Int) - 1 := IntWalk.i64_in _ (by omega)
      have b4 : (0 : Int) ≤ (k : Int) - 1 := by omega
      have b5 : (k : Int) - 1 < (n : Int) := by omega
      have b7 : (1 : Int) ≤ (k : Int) := by omega
      have b8 : 1 ≤ k := by omega
      have b11 : k ≤ n := by omega
      have b9 : (k : Int) < (n : Int) + 1 := by omega
      have b6 : ((k : Int) - 1).toNat = k - 1 := by omega
      have hseg : ∀ W, Below (w.heap.size + 1) (w.alloc (.cells #[.int .i64 ph, .slice (some ⟨b, off, none⟩) n cap] 24)) W → ∀ i, i < n → W.cell? ⟨b, off + i * 2, none⟩ = some (.int .i64 (A i)) ∧ W.cell? ⟨b, off + i * 2 + 1, none⟩ = some (.int .i64 (P i)) :=
        fun W h i hi => ⟨((box_below h).cell (p := ⟨b, off + i * 2, none⟩) hlt).trans (HC.out i hi).1, ((box_below h).cell (p := ⟨b, off + i * 2 + 1, none⟩) hlt).trans (HC.out i hi).2⟩
      have HS := hide hseg
      have HKS : Hid (∀ W, Below (w.heap.size + 1) (w.alloc (.cells #[.int .i64 ph, .slice (some ⟨b, off, none⟩) n cap] 24)) W → W.cell? ⟨w.heap.size, 1, none⟩ = some (.slice (some ⟨b, off, none⟩) n cap) ∧ W.cell? ⟨b, off + (k - 1) * 2 + 1, none⟩ = some (.int .i64 (P (k - 1))) ∧ Below (w.heap.size + 1) (w.alloc (.cells #[.int .i64 ph, .slice (some ⟨b, off, none⟩) n cap] 24)) W) :=
        hide fun W h => ⟨(KK.out W h).2.1, (hseg W h (k - 1) (by omega)).2, h⟩
      obtain ⟨i0, hi, hz0, hz1, hz2⟩ := info_parts info_seg
      have HI0 := hide hi
      have HZ0 := hide hz0
      have HZ1 := hide hz1
      have HZ2 := hide hz2
      have hs1 : w.heap.size + 1 ≤ w1.heap.size := by have := hb.size; simpa using this
      have hbd := hb.drew
      clear hseg hi hz0 hz1 hz2
      go_upto_region 8 with fail
      go_cut [8] (fun c wx => wx.ownsRow (w.heap.size + 1) 32 2 c (n + 1) (rowL (cutA A k at_) (cutA P k (P (k - 1))) 0 (n + 1)) ∧ Below (w.heap.size + 1) (w.alloc (.cells #[.int .i64 ph, .slice (some ⟨b, off, none⟩) n cap] 24)) wx)
      case first =>
        go_region_held3 (fun W => W.cell? ⟨w.heap.size, 1, none⟩ = some (.slice (some ⟨b, off, none⟩) n cap) ∧ W.cell? ⟨b, off + (k - 1) * 2 + 1, none⟩ = some (.int .i64 (P (k - 1))) ∧ Below (w.heap.size + 1) (w.alloc (.cells #[.int .i64 ph, .slice (some ⟨b, off, none⟩) n cap] 24)) W) (first | exact HKS.out _ (by assumption) | exact HKS.out _ (box_alloc (And.right (And.right (by assumption)))) | exact HKS.out _ (Below.drew (by assumption)))
          (first
            | (refine step_app2 _ rfl (.tmp 68) (.tmp 72) 22 rfl (w.heap.size + 1) 32 i0 _ 2 16 Try.underlying22 HI0.out HZ0.out HZ1.out HZ2.out rfl (Nat.zero_lt_succ 1) 0 [] ?_ k (rowL A P 0 k) ?_ (rowL_one _ _ _ _) ?_ ?_ ?_ ?_; (first | (refine own_lit1 ?_ ?_; (first | rfl | (focus (simp; done))); (first | exact hs1 | (simp; omega))) | (refine (own_lit1 ?_ ?_).alloc _; (first | rfl | (focus (simp; done))); (first | exact hs1 | (simp; omega)))); exact ⟨_, _, rfl, seg_src HS.out (And.right (And.right (by assumption))) 0 k (by omega)⟩; (unfold maxLen; omega); omega; (have h := Below.size (And.right (And.right (by assumption : _ ∧ _ ∧ Below (w.heap.size + 1) (w.alloc (.cells #[.int .i64 ph, .slice (some ⟨b, off, none⟩) n cap] 24)) _))); focus (first | (simp at h ⊢; omega) | (simp at h; exact h) | (simp at h ⊢; done))); intro v1 wA hown1 hg1 hbk1; have hbA := box_grown (And.right (And.right (by assumption))) hg1 hbk1)
            | (refine step_app2 _ rfl (.tmp 73) (.tmp 83) 22 rfl (w.heap.size + 1) 32 i0 _ 2 16 Try.underlying22 HI0.out HZ0.out HZ1.out HZ2.out rfl (Nat.zero_lt_succ 1) (0 + k) ([] ++ rowL A P 0 k) ?_ 1 [.int .i64 at_, .int .i64 (P (k - 1))] ?_ (two_one _ _) ?_ ?_ ?_ ?_; (first | exact hown1 | exact hown1.alloc _); (first | (refine ⟨_, _, rfl, src_now1 ?_⟩; (first | rfl | (focus (simp; done)))) | (refine ⟨_, _, rfl, src_keep hg1 (src_drew (src_now1 ?_)) ?_ ?_⟩; (first | rfl | (focus (simp; done)) | (focus (simp; omega))); (first | rfl | (focus (simp; done)) | (focus (simp; omega))); (first | (focus (intro e; have e' : some w1.heap.size = some (w1.heap.size + 1) := e; simp at e')) | (focus (intro e; have e' : some (w1.heap.size + 1) = some w1.heap.size := e; simp at e')))) | (refine ⟨_, _, rfl, src_keep hg1 (src_now1 ?_) ?_ ?_⟩; (first | rfl | (focus (simp; done)) | (focus (simp; omega))); (first | rfl | (focus (simp; done)) | (focus (simp; omega))); (first | (focus (intro e; have e' : some w1.heap.size = some (w1.heap.size + 1) := e; simp at e')) | (focus (intro e; have e' : some (w1.heap.size + 1) = some w1.heap.size := e; simp at e')))) | (refine ⟨_, _, rfl, src_keep hg1 (src_drew (src_up (src_now1 ?_) ?_)) ?_ ?_⟩; (first | rfl | (focus (simp; done)) | (focus (simp; omega))); (first | rfl | (focus (simp; done)) | (focus (simp; omega))); (first | rfl | (focus (simp; done)) | (focus (simp; omega))); (first | (focus (intro e; have e' : some w1.heap.size = some (w1.heap.size + 1) := e; simp at e')) | (focus (intro e; have e' : some (w1.heap.size + 1) = some w1.heap.size := e; simp at e')))) | (refine ⟨_, _, rfl, src_keep hg1 (src_up (src_now1 ?_) ?_) ?_ ?_⟩; (first | rfl | (focus (simp; done)) | (focus (simp; omega))); (first | rfl | (focus (simp; done)) | (focus (simp; omega))); (first | rfl | (focus (simp; done)) | (focus (simp; omega))); (first | (focus (intro e; have e' : some w1.heap.size = some (w1.heap.size + 1) := e; simp at e')) | (focus (intro e; have e' : some (w1.heap.size + 1) = some w1.heap.size := e; simp at e')))) | (refine ⟨_, _, rfl, src_up (src_now1 ?_) ?_⟩; (first | rfl | (focus (simp; done)) | (focus (simp; omega))); (first | rfl | (focus (simp; done)) | (focus (simp; omega))))); (first | (focus (unfold maxLen; omega)) | fail "M1"); (first | (focus omega) | fail "M2"); (first | (focus (have h := Below.size (And.right (And.right (by assumption : _ ∧ _ ∧ Below (w.heap.size + 1) (w.alloc (.cells #[.int .i64 ph, .slice (some ⟨b, off, none⟩) n cap] 24)) _))); simp at h ⊢; omega)) | (focus (have h := Below.size (And.right (And.right (by assumption : _ ∧ _ ∧ Below (w.heap.size + 1) (w.alloc (.cells #[.int .i64 ph, .slice (some ⟨b, off, none⟩) n cap] 24)) _))); simp at h ⊢; exact h)) | (focus (have h := Below.size (And.right (And.right (by assumption : _ ∧ _ ∧ Below (w.heap.size + 1) (w.alloc (.cells #[.int .i64 ph, .slice (some ⟨b, off, none⟩) n cap] 24)) _))); simp at h ⊢; done)) | fail "M3"); intro v2 wB hown2 hg2 hbk2; have hbB := box_grown (And.right (And.right (by assumption))) hg2 hbk2)
            | (refine step_app2 _ rfl (.tmp 84) (.tmp 88) 22 rfl (w.heap.size + 1) 32 i0 _ 2 16 Try.underlying22 HI0.out HZ0.out HZ1.out HZ2.out rfl (Nat.zero_lt_succ 1) (0 + k + 1) (([] ++ rowL A P 0 k) ++ [.int .i64 at_, .int .i64 (P (k - 1))]) ?_ (n - k) (rowL A P k (n - k)) ?_ (rowL_one _ _ _ _) ?_ ?_ ?_ ?_; exact hown2; (first | exact ⟨_, _, rfl, seg_src HS.out (And.right (And.right (by assumption))) k (n - k) (by omega)⟩ | exact ⟨_, _, rfl, src_nilA _ b13.out⟩); (unfold maxLen; omega); omega; (have h := Below.size (And.right (And.right (by assumption : _ ∧ _ ∧ Below (w.heap.size + 1) (w.alloc (.cells #[.int .i64 ph, .slice (some ⟨b, off, none⟩) n cap] 24)) _))); focus (first | (simp at h ⊢; omega) | (simp at h; exact h) | (simp at h ⊢; done))); intro v3 wC hown3 hg3 hbk3; have hbC := box_grown (And.right (And.right (by assumption))) hg3 hbk3)
            | (refine step_app2 _ rfl (.tmp 84) (.tmp 88) 22 rfl (w.heap.size + 1) 32 i0 _ 2 16 Try.underlying22 HI0.out HZ0.out HZ1.out HZ2.out rfl (Nat.zero_lt_succ 1) (0 + k + 1) (([] ++ rowL A P 0 k) ++ [.int .i64 at_, .int .i64 (P (k - 1))]) ?_ 0 [] ?_ none_one ?_ ?_ ?_ ?_; exact hown2; exact ⟨_, _, rfl, src_nil _⟩; (unfold maxLen; omega); omega; (have h := Below.size (And.right (And.right (by assumption : _ ∧ _ ∧ Below (w.heap.size + 1) (w.alloc (.cells #[.int .i64 ph, .slice (some ⟨b, off, none⟩) n cap] 24)) _))); focus (first | (simp at h ⊢; omega) | (simp at h; exact h) | (simp at h ⊢; done))); intro v3 wC hown3 hg3 hbk3; have hbC := box_grown (And.right (And.right (by assumption))) hg3 hbk3))
        all_goals
          go_wp2_with fail
          go_meet
          exact ⟨by first | exact cut_done (by assumption) b11 | exact cut_done0 (by assumption) b11 b13.out, by assumption⟩
      obtain ⟨hown, hh⟩ := hcut
      obtain ⟨g, gc, rfl, hgb, hgl⟩ := row_form hown (by omega)
      have hwc : w.heap.size + 1 ≤ wc.heap.size := by have := hh.size; simpa using this
      have hq1 := HRD.out (P (k - 1)) (.inl rfl)
      have hq2 := HOK.out (P (k - 1)) ⟨p1, p2⟩
      obtain ⟨ev, ee⟩ := same_rd HZ.out hq2 hq1
      have CR2 := hide (fun W (h : W.ownsRow (w.heap.size + 1) 32 2 (.slice (some ⟨g, 0, none⟩) (n + 1) gc) (n + 1) (rowL (cutA A k at_) (cutA P k (P (k - 1))) 0 (n + 1))) => Read_any ph (some ⟨g, 0, none⟩) (n + 1) gc (cutA A k at_) (cutA P k (P (k - 1))) t W (row_segs h (by omega)))
      rw [ev, ee] at CR2
      have CR3 : t ≤ at_ → Hid (∀ W, W.ownsRow (w.heap.size + 1) 32 2 (.slice (some ⟨g, 0, none⟩) (n + 1) gc) (n + 1) (rowL (cutA A k at_) (cutA P k (-P (k - 1))) 0 (n + 1)) → Calls Try.prog 9 #[.agg #[.int .i64 ph, .slice (some ⟨g, 0, none⟩) (n + 1) gc], .int .i64 t] W fun e w' => e = .returned (.tuple #[.int .i64 (rdV ph A P n t), .int .i64 (rdE ph A P n t)]) ∧ Below W.heap.size W w') := by
        intro ht
        have hq3 := HRD.out (-P (k - 1)) (.inr ht)
        have hq4 := HOK.out (-P (k - 1)) ⟨by omega, by omega⟩
        obtain ⟨fv, fe⟩ := same_rd HZ.out hq4 hq3
        have h := fun W (h : W.ownsRow (w.heap.size + 1) 32 2 (.slice (some ⟨g, 0, none⟩) (n + 1) gc) (n + 1) (rowL (cutA A k at_) (cutA P k (-P (k - 1))) 0 (n + 1))) => Read_any ph (some ⟨g, 0, none⟩) (n + 1) gc (cutA A k at_) (cutA P k (-P (k - 1))) t W (row_segs h (by omega))
        rw [fv, fe] at h
        exact hide h
      have CR1 := hide CR.out
      clear CR hq1 hq2 ev ee HRD HOK HZ C3 HR HKS hbd HI0 HZ0 HZ1 HZ2
      generalize rdV ph A P n t = rv at *
      generalize rdE ph A P n t = re at *
      obtain ⟨f0, f1, _⟩ := KK.out _ hh
      go_wp2_with fail
      refine (CR1.out _ (by first | exact hh | exact hh.drew)).mono ?_
      rintro e wr ⟨rfl, hbr⟩
      have hh1 : Below (w.heap.size + 1) (w.alloc (.cells #[.int .i64 ph, .slice (some ⟨b, off, none⟩) n cap] 24)) wr := hh.trans (hbr.mono hwc)
      have hown1 := row_keep hown hbr
      obtain ⟨f2, f3, _⟩ := KK.out _ hh1
      have hwr : w.heap.size + 1 ≤ wr.heap.size := by have := hh1.size; simpa using this
      clear f0 f1
      go_wp2_with fail
      refine (CR2.out _ hown1).mono ?_
      rintro e ws ⟨rfl, hbs⟩
      have hh2 : Below (w.heap.size + 1) (w.alloc (.cells #[.int .i64 ph, .slice (some ⟨b, off, none⟩) n cap] 24)) ws := hh1.trans (hbs.mono hwr)
      have hown2 := row_keep hown1 hbs
      clear f2 f3 hown hown1
      have g1 : (rv != rv) = false := by simp
      have g2 : (re != re) = false := by simp
      by_cases ht : t ≤ at_
      · have CR4 := CR3 ht
        have st := hown2.stored (k * 2 + 1) (.int .i64 (-P (k - 1)))
        rw [row_set A P k n at_ _ _ b11] at st
        obtain ⟨hown3, hg3⟩ := st
        have hcl := hown2.cellAt (k * 2 + 1) (by omega)
        rw [cut_cell A P k n at_ _ b11] at hcl
        have hfz := hown2.frozenAt (k * 2 + 1)
        have hh3 := box_grown hh2 hg3 (fun q e => by cases e; exact hgb)
        have b10 : IntKind.i64.wrap (-P (k - 1)) = -P (k - 1) := IntWalk.i64_in _ (by omega)
        have b12 : (k : Int) < ((n + 1 : Nat) : Int) := by omega
        obtain ⟨f4, f5, _⟩ := KK.out _ hh3
        have hwt : w.heap.size + 1 ≤ (ws.setCell ⟨g, k * 2 + 1, none⟩ (.int .i64 (-P (k - 1)))).heap.size := by have := hh3.size; simpa using this
        clear CR3
        go_wp2_with fail
        refine (CR4.out _ hown3).mono ?_
        rintro e wt ⟨rfl, hbt⟩
        have hh4 : Below (w.heap.size + 1) (w.alloc (.cells #[.int .i64 ph, .slice (some ⟨b, off, none⟩) n cap] 24)) wt := hh3.trans (hbt.mono hwt)
        clear f4 f5 hcl hfz
        go_wp2_with fail
        refine (C5.out _ (by first | exact hh4 | exact hh4.drew)).mono ?_
        rintro e wu ⟨rfl, hbu⟩
        go_wp2
        go_ret
        exact ⟨by simp, box_below hbu⟩
      · clear CR3
        go_wp2_with fail
        refine (C5.out _ (by first | exact hh2 | exact hh2.drew)).mono ?_
        rintro e wu ⟨rfl, hbu⟩
        go_wp2
        go_ret
        exact ⟨by simp, box_below hbu⟩
end Go.Proofs.Ytcfmjoadbamdiaa.OscW
