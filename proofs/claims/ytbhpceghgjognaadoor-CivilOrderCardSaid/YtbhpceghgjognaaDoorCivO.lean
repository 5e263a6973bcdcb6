/- Layer 5: Parse of the reference. -/
import Derived.Test.YtbhpceghgjognaaDoorCivN
namespace Go.Proofs.YtbhpceghgjognaaDoor.Civ
open Go.RowKit Aid
theorem RParse_long (s : ByteArray) (w : World) (h : s.size ≠ 30) :
    Calls Tryd.prog 15 #[.string s] w fun e w' => e = .returned (.tuple #[zeroV, .int .i64 19]) ∧ Below w.heap.size w w' := by
  have hb0 : Below w.heap.size w (w.alloc Z7) := (Below.refl _ _).alloc (Nat.le_refl _) _
  have HB := hide hb0
  have hsz : ((s.size : Int) != 30) = true := by simp; omega
  clear hb0 h
  go_enter Tryd.func15, Tryd.ntmps15
  go_wp2
  refine bodyPost_ret (v := .tuple #[zeroV, .int .i64 19]) (by simp [results, Tryd.results15, go_sem, zeroV]) rfl ?_
  refine ⟨rfl, ?_⟩
  repeat (with_reducible refine Below.setCell ?_ (by simp) _)
  exact HB.out
theorem box_made (w : World) (n : Nat) (x0 x1 x2 x3 x4 x5 x6 : Int) : Box7 (((w.alloc Z7).drewN n).alloc (.cells #[.int .i64 x0, .int .i64 x1, .int .i64 x2, .int .i64 x3, .int .i64 x4, .int .i64 x5, .int .i64 x6] 23)) (w.heap.size + 1) x0 x1 x2 x3 x4 x5 x6 := by
  have := Box7.new ((w.alloc Z7).drewN n) x0 x1 x2 x3 x4 x5 x6
  rwa [show ((w.alloc Z7).drewN n).heap.size = w.heap.size + 1 by simp] at this
theorem cut_size {s : ByteArray} {a e n : Nat} (he : e = a + n) (h : e ≤ s.size) : (s.extract a e).size = n := by subst he; exact size_cut h
theorem num_cut (s : ByteArray) (a e n : Nat) (he : e = a + n) (h9 : n ≤ 9) (hs : e ≤ s.size) (hd : Digs s a n) (w : World) :
    Calls Tryd.prog 36 #[.string (s.extract a e)] w fun e w' => e = .returned (.int .i64 (valT s a n : Nat)) ∧ w = w' := by
  have hz := cut_size he hs
  have := number_any (s.extract a e) w (by rw [hz]; exact h9) (by rw [hz]; subst he; exact digs_cut hs hd)
  rw [hz] at this
  subst he
  rwa [valT_cut hs n (Nat.le_refl _)] at this
set_option maxRecDepth 100000 in
set_option maxHeartbeats 6400000 in
theorem RParse_30 (s : ByteArray) (w : World) (hs : s.size = 30) (k : Int) (hf : ¬ Formed s → k = 19) (hg : Formed s → k = chkP s) (v : Value) (hv0 : k = 0 → v = parV s) (hv1 : k ≠ 0 → v = zeroV) :
    Calls Tryd.prog 15 #[.string s] w fun e w' => e = .returned (.tuple #[v, .int .i64 k]) ∧ Below w.heap.size w w' := by
  have hb0 : Below w.heap.size w (w.alloc Z7) := (Below.refl _ _).alloc (Nat.le_refl _) _
  have HB := hide hb0
  have HF := hide hf
  have HG0 := hide hg
  have HV0 := hide hv0
  have HV1 := hide hv1
  clear hb0 hf hg hv0 hv1
  go_enter Tryd.func15, Tryd.ntmps15
  go_wp2
  go_loopw [4] (fun i wr => ∃ j : Nat, j ≤ 30 ∧ i = .int .i64 j ∧ (∀ x, x < j → Good s x) ∧ ∃ n, wr = (w.alloc Z7).drewN n) (fun i _ => 30 - (intOf i).toNat)
  case atStart => exact ⟨0, by omega, rfl, fun x hx => by omega, 0, rfl⟩
  case round =>
    obtain ⟨j, hj, rfl, hg, nn, rfl⟩ := hrel
    have HG := hide hg
    clear hg
    by_cases hlt : j < 30
    · have hk2 : j < s.size := by omega
      have hki : (j : Int) < 30 := by omega
      obtain ⟨c, hc⟩ : ∃ c : Nat, (s[j]'hk2).toNat = c := ⟨_, rfl⟩
      have hf := form_all ⟨j, hlt⟩
      dsimp only at hf
      obtain ⟨f, hfe⟩ : ∃ f : Nat, formN j = f := ⟨_, rfl⟩
      rw [hfe] at hf
      have hsz : formB.size = 30 := rfl
      unfold formB at hf hsz
      by_cases hf48 : f = 48
      · subst hf48
        by_cases h1 : c < 48
        · have u1 : decide ((c : Int) < 48) = true := decide_eq_true (by omega)
          have hnf : ¬ Formed s := fun h => by
            have := h.2 j hlt hk2
            rw [hc, hfe] at this
            omega
          have hk19 := HF.out hnf
          subst hk19
          obtain rfl := HV1.out (by decide)
          clear hfe HF HG0 HV0 HV1
          go_wp2
          go_quiet (fail)
          go_wp2
          refine bodyPost_ret (v := .tuple #[zeroV, .int .i64 19]) (by simp [results, Tryd.results15, go_sem, zeroV]) rfl ?_
          refine ⟨rfl, ?_⟩
          repeat (with_reducible refine Below.setCell ?_ (by simp) _)
          exact below_drewN HB.out _
        · have u1 : decide ((c : Int) < 48) = false := decide_eq_false (by omega)
          by_cases h2 : 57 < c
          · have u2 : decide ((57 : Int) < (c : Int)) = true := decide_eq_true (by omega)
            have hnf : ¬ Formed s := fun h => by
              have := h.2 j hlt hk2
              rw [hc, hfe] at this
              omega
            have hk19 := HF.out hnf
            subst hk19
            obtain rfl := HV1.out (by decide)
            clear hfe HF HG0 HV0 HV1
            go_wp2
            go_quiet (fail)
            go_wp2
            refine bodyPost_ret (v := .tuple #[zeroV, .int .i64 19]) (by simp [results, Tryd.results15, go_sem, zeroV]) rfl ?_
            refine ⟨rfl, ?_⟩
            repeat (with_reducible refine Below.setCell ?_ (by simp) _)
            exact below_drewN HB.out _
          · have u2 : decide ((57 : Int) < (c : Int)) = false := decide_eq_false (by omega)
            have HN : Hid (Good s j) := hide (fun h => .inl ⟨hfe, by rw [hc]; omega, by rw [hc]; omega⟩)
            clear hfe
            go_wp2
            go_quiet (fail)
            go_wp2
            go_roundw
            case rel => exact ⟨j + 1, by omega, by go_num, fun x hx => (by
              rcases Nat.lt_or_ge x j with h | h
              · exact HG.out x h
              · obtain rfl : x = j := by omega
                exact HN.out), _, rfl⟩
            case measure => (simp [intOf]) <;> omega
      · have v1 : ((f : Int) == 48) = false := by simp; omega
        have v2 : ((f : Int) != 48) = true := by simp; omega
        by_cases hcf : c = f
        · have v3 : ((c : Int) != (f : Int)) = false := by simp; omega
          have HN : Hid (Good s j) := hide (fun h => .inr ⟨by rw [hfe]; exact hf48, by rw [hc, hfe]; exact hcf⟩)
          clear hfe
          go_wp2
          go_quiet (fail)
          go_wp2
          go_roundw
          case rel => exact ⟨j + 1, by omega, by go_num, fun x hx => (by
            rcases Nat.lt_or_ge x j with h | h
            · exact HG.out x h
            · obtain rfl : x = j := by omega
              exact HN.out), _, rfl⟩
          case measure => (simp [intOf]) <;> omega
        · have v3 : ((c : Int) != (f : Int)) = true := by simp; omega
          have hnf : ¬ Formed s := fun h => by
            have := h.2 j hlt hk2
            rw [hc, hfe] at this
            omega
          have hk19 := HF.out hnf
          subst hk19
          obtain rfl := HV1.out (by decide)
          clear hfe HF HG0 HV0 HV1
          go_wp2
          go_quiet (fail)
          go_wp2
          refine bodyPost_ret (v := .tuple #[zeroV, .int .i64 19]) (by simp [results, Tryd.results15, go_sem, zeroV]) rfl ?_
          refine ⟨rfl, ?_⟩
          repeat (with_reducible refine Below.setCell ?_ (by simp) _)
          exact below_drewN HB.out _
    · have hform : Formed s := ⟨hs, fun x hx => HG.out x (by omega)⟩
      obtain rfl : j = 30 := by omega
      have hk := HG0.out hform
      obtain ⟨g0, g1, g2, g3, g4, g5, g6⟩ := digs_all hform
      have F0 := hide fun W => num_cut s 0 4 4 rfl (by omega) (by omega) g0 W
      have F1 := hide fun W => num_cut s 5 7 2 rfl (by omega) (by omega) g1 W
      have F2 := hide fun W => num_cut s 8 10 2 rfl (by omega) (by omega) g2 W
      have F3 := hide fun W => num_cut s 11 13 2 rfl (by omega) (by omega) g3 W
      have F4 := hide fun W => num_cut s 14 16 2 rfl (by omega) (by omega) g4 W
      have F5 := hide fun W => num_cut s 17 19 2 rfl (by omega) (by omega) g5 W
      have F6 := hide fun W => num_cut s 20 29 9 rfl (by omega) (by omega) g6 W
      have hb1 := below_drewN (Below.refl (w.heap.size + 1) (w.alloc Z7)) nn
      have HB1 := hide hb1
      have HPV : Hid (parV s = .agg #[.int .i64 (valT s 0 4 : Nat), .int .i64 (valT s 5 2 : Nat), .int .i64 (valT s 8 2 : Nat), .int .i64 (valT s 11 2 : Nat), .int .i64 (valT s 14 2 : Nat), .int .i64 (valT s 17 2 : Nat), .int .i64 (valT s 20 9 : Nat)]) := hide rfl
      have C := fun W => RCheck_any (valT s 0 4 : Nat) (valT s 5 2 : Nat) (valT s 8 2 : Nat) (valT s 11 2 : Nat) (valT s 14 2 : Nat) (valT s 17 2 : Nat) (valT s 20 9 : Nat) W
      have HK3 : Hid (k = 0 ∨ k = 3) := hide (by rw [hk]; exact chkC_two _ _ _ _ _ _ _)
      unfold chkP at hk
      rw [← hk] at C
      have HC := hide C
      have t0 := Box7.new w 0 0 0 0 0 0 0
      have T := hide t0
      generalize parV s = pv at *
      generalize valT s 0 4 = y at *
      generalize valT s 5 2 = m at *
      generalize valT s 8 2 = d at *
      generalize valT s 11 2 = hh at *
      generalize valT s 14 2 = mi at *
      generalize valT s 17 2 = ss at *
      generalize valT s 20 9 = nx at *
      rw [show ((30 : Nat) : Int) = 30 from rfl]
      clear g0 g1 g2 g3 g4 g5 g6 hform HG HF HG0 hk C t0 hlt hj
      go_upto_region 8 with fail
      go_cut [5] (fun a wx => ∃ P : Nat, a = .pointer (some ⟨P, 0, none⟩) ∧ w.heap.size + 1 ≤ P ∧ Box7 wx P y m d hh mi ss nx ∧ Below (w.heap.size + 1) (w.alloc Z7) wx)
      case first =>
        go_region_held3 (fun W => Below (w.heap.size + 1) (w.alloc Z7) W) (first | assumption | exact hb1 | exact below_drewN (Below.refl _ _) _ | exact Below.alloc (below_drewN (Below.refl _ _) _) (by simp) _ | exact Below.drew (by assumption) | exact Below.alloc (by assumption) (by simp) _ | (repeat (first | with_reducible exact hb1 | with_reducible refine Below.drew ?_ | with_reducible refine Below.alloc ?_ (by simp) _ | with_reducible refine Below.setCell ?_ (by simp) _))) (first | (go_at_call 36; with_reducible refine (F0.out _).mono ?_; rintro e w' ⟨rfl, rfl⟩) | (go_at_call 36; with_reducible refine (F1.out _).mono ?_; rintro e w' ⟨rfl, rfl⟩) | (go_at_call 36; with_reducible refine (F2.out _).mono ?_; rintro e w' ⟨rfl, rfl⟩) | (go_at_call 36; with_reducible refine (F3.out _).mono ?_; rintro e w' ⟨rfl, rfl⟩) | (go_at_call 36; with_reducible refine (F4.out _).mono ?_; rintro e w' ⟨rfl, rfl⟩) | (go_at_call 36; with_reducible refine (F5.out _).mono ?_; rintro e w' ⟨rfl, rfl⟩) | (go_at_call 36; with_reducible refine (F6.out _).mono ?_; rintro e w' ⟨rfl, rfl⟩))
        all_goals (go_wp2_with fail; go_meet; exact ⟨_, rfl, Nat.le_refl _, box_made w _ _ _ _ _ _ _ _, Below.alloc (below_drewN (Below.refl _ _) _) (by simp) _⟩)
      case rest =>
        obtain ⟨P, rfl, hP, TP, hbw⟩ := hcut
        have HTP := hide TP
        have U := T.out.under (B := w.heap.size + 1) hbw (by omega)
        have HU := hide U
        have HBW := hide hbw
        obtain ⟨x0, x1, x2, x3, x4, x5, x6, xf, xlt⟩ := TP
        clear hbw U T
        go_wp2_with fail
        with_reducible refine (HC.out _).mono ?_
        rintro e w8 ⟨rfl, hb8⟩
        have X := HU.out.step hb8
        have Y := HTP.out.step hb8
        have HW := hide (HB.out.trans ((HBW.out.mono (by omega)).trans (hb8.mono (by have := HBW.out.size; simp at this; omega))))
        clear x0 x1 x2 x3 x4 x5 x6 xf xlt
        obtain ⟨x0, x1, x2, x3, x4, x5, x6, xf, xlt⟩ := X
        obtain ⟨y0, y1, y2, y3, y4, y5, y6, yf, ylt⟩ := Y
        by_cases h0 : k = 0
        · subst h0
          obtain rfl := HV0.out rfl
          go_wp2
          refine bodyPost_ret (v := .tuple #[v, .int .i64 0]) (by simp [results, Tryd.results15, go_sem, HPV.out, x0, x1, x2, x3, x4, x5, x6, xf]) rfl ?_
          refine ⟨rfl, ?_⟩
          repeat (with_reducible refine Below.setCell ?_ (by simp) _)
          exact HW.out
        · have hk1 : (k != 0) = true := by simpa using h0
          obtain rfl := HV1.out h0
          have hk3 : k = 3 := by
            have := HK3.out
            omega
          subst hk3
          go_wp2
          refine bodyPost_ret (v := .tuple #[zeroV, .int .i64 3]) (by simp [results, Tryd.results15, go_sem, zeroV, x0, x1, x2, x3, x4, x5, x6, xf]) rfl ?_
          refine ⟨rfl, ?_⟩
          repeat (with_reducible refine Below.setCell ?_ (by simp) _)
          exact HW.out
end Go.Proofs.YtbhpceghgjognaaDoor.Civ
