/- The contract of layer 7: locate. -/
import Derived.Test.YtnnfaejejnfckaaDoorSmrB
namespace Go.Proofs.YtnnfaejejnfckaaDoor.Smr
open Go.RowKit Aid Civ Leap
noncomputable def locV (B : Int) (O F : Nat → Int) (L : Int) (n : Nat) (t : Int) : Int × Int × Int :=
  if InW F L t (plc F t n) then (offP B O (plc F t n - 1), offP B O (plc F t n) - offP B O (plc F t n - 1), t - F (plc F t n - 1)) else (offP B O (plc F t n), 0, 0)
theorem loc_out {B W : Int} {O F : Nat → Int} {L : Int} {n : Nat} (P : Pol B W O F L n) {k : Nat} (hk : k ≤ n) {t : Int} (h1 : 0 < k → F (k - 1) + L ≤ t) (h2 : k < n → t < F k) : locV B O F L n t = (offP B O k, 0, 0) := by
  have e : plc F t n = k := plc_eq P.sep P.L0 hk (fun h => by have := h1 h; have := P.L0; omega) h2
  unfold locV
  rw [e, if_neg (fun h => by have := h1 h.1; have := h.2; omega)]
theorem loc_in {B W : Int} {O F : Nat → Int} {L : Int} {n : Nat} (P : Pol B W O F L n) {k : Nat} (hk : k < n) {t : Int} (h1 : F k ≤ t) (h2 : t < F k + L) : locV B O F L n t = (offP B O k, O k - offP B O k, t - F k) := by
  have e : plc F t n = k + 1 := plc_eq P.sep P.L0 hk (fun _ => by rw [Nat.add_sub_cancel]; exact h1) (fun h => by have := P.sep k h; omega)
  unfold locV
  rw [e, if_pos ⟨by omega, by rw [Nat.add_sub_cancel]; exact h2⟩, offP_succ, Nat.add_sub_cancel]
theorem cells8 {w : World} {x0 x1 x2 y0 y1 z0 z1 z2 : Value} {T U V : TypeId} {W : World} (h : Below (w.heap.size + 3) (((w.alloc (.cells #[x0, x1, x2] T)).alloc (.cells #[y0, y1] U)).alloc (.cells #[z0, z1, z2] V)) W) :
    (W.cell? ⟨w.heap.size, 0, none⟩ = some x0 ∧ W.cell? ⟨w.heap.size, 1, none⟩ = some x1 ∧ W.cell? ⟨w.heap.size, 2, none⟩ = some x2 ∧ W.cell? ⟨w.heap.size + 1, 0, none⟩ = some y0 ∧ W.cell? ⟨w.heap.size + 1, 1, none⟩ = some y1) ∧
    (W.cell? ⟨w.heap.size + 1 + 1, 0, none⟩ = some z0 ∧ W.cell? ⟨w.heap.size + 1 + 1, 1, none⟩ = some z1 ∧ W.cell? ⟨w.heap.size + 1 + 1, 2, none⟩ = some z2 ∧ (∀ o, W.frozen? ⟨w.heap.size + 1 + 1, o, none⟩ = false)) ∧ w.heap.size + 3 ≤ W.heap.size := by
  have c : ∀ b o, b < w.heap.size + 3 → W.cell? ⟨b, o, none⟩ = (((w.alloc (.cells #[x0, x1, x2] T)).alloc (.cells #[y0, y1] U)).alloc (.cells #[z0, z1, z2] V)).cell? ⟨b, o, none⟩ := fun b o hb => h.cell (p := ⟨b, o, none⟩) hb
  have f : ∀ o, W.frozen? ⟨w.heap.size + 1 + 1, o, none⟩ = (((w.alloc (.cells #[x0, x1, x2] T)).alloc (.cells #[y0, y1] U)).alloc (.cells #[z0, z1, z2] V)).frozen? ⟨w.heap.size + 1 + 1, o, none⟩ := fun o => h.frozen (p := ⟨w.heap.size + 1 + 1, o, none⟩) (by show w.heap.size + 1 + 1 < _; omega)
  refine ⟨⟨(c _ 0 (by omega)).trans (by simp [go_sem]), (c _ 1 (by omega)).trans (by simp [go_sem]), (c _ 2 (by omega)).trans (by simp [go_sem]), (c _ 0 (by omega)).trans (by simp [go_sem]), (c _ 1 (by omega)).trans (by simp [go_sem])⟩, ⟨(c _ 0 (by omega)).trans (by simp [go_sem]), (c _ 1 (by omega)).trans (by simp [go_sem]), (c _ 2 (by omega)).trans (by simp [go_sem]), fun o => (f o).trans (by simp [go_sem])⟩, ?_⟩
  have := h.size; simp at this; omega
theorem bb3 {w : World} (a b c : Obj) : Below w.heap.size w (((w.alloc a).alloc b).alloc c) := (((Below.refl _ _).alloc (Nat.le_refl _) a).alloc (by simp) b).alloc (by simp; omega) c
theorem boxB3 {w : World} {a b c : Obj} {W : World} (h : Below (w.heap.size + 3) (((w.alloc a).alloc b).alloc c) W) : Below w.heap.size w W := (bb3 a b c).trans (h.mono (by omega))
theorem shf_ways {K W : Int} (h : KW K W) : (K = 2 ∧ (W * 1000000000).tdiv 2 = W * 500000000 ∧ 2 ≤ W ∧ W ≤ 172800 ∧ shf K W = W * 500000000) ∨ ((K == 2) = false ∧ (K == 3) = true ∧ 2 ≤ W ∧ W ≤ 172800 ∧ shf K W = W * 1000000000) ∨ ((K == 2) = false ∧ (K == 3) = false ∧ 0 ≤ W ∧ W ≤ 172800 ∧ shf K W = 0) := by
  unfold KW at h
  rcases h with ⟨rfl, rfl⟩ | ⟨rfl | rfl | rfl, h⟩
  · exact .inr (.inr ⟨rfl, rfl, by omega, by omega, rfl⟩)
  · exact .inl ⟨rfl, by rw [Int.tdiv_eq_ediv, if_pos (.inl (by omega))]; omega, h.1, h.2.1, by simp [shf]⟩
  · exact .inr (.inl ⟨rfl, rfl, h.1, h.2.1, by simp [shf]⟩)
  · exact .inr (.inr ⟨rfl, rfl, by omega, by omega, rfl⟩)
set_option maxRecDepth 100000 in
set_option maxHeartbeats 3200000 in
theorem locate_mid (B X : Int) (a : Option Addr) (n cap : Nat) (A O : Nat → Int) (K W t : Int) (w : World) (hr : Ents w a n A O) (T : Tab B X A O n) (hp : KW K W) (ht : -8000000000000000000 ≤ t ∧ t ≤ 8000000000000000000) (kh : K = 2) (kd : (W * 1000000000).tdiv 2 = W * 500000000) (w1 : 2 ≤ W) (w2 : W ≤ 172800) (ks : shf K W = W * 500000000) :
    Calls Tryd.prog 33 #[.agg #[.int .i64 B, .int .i64 X, .slice a n cap], .agg #[.int .i64 K, .int .i64 W], .int .i64 t] w fun e w' => e = .returned (.agg #[.int .i64 (locV B O (frm K W A O) (W * 1000000000) n t).1, .int .i64 (locV B O (frm K W A O) (W * 1000000000) n t).2.1, .int .i64 (locV B O (frm K W A O) (W * 1000000000) n t).2.2]) ∧ Below w.heap.size w w' := by
  have P := pol_of T hp
  have hn := hr.1
  have HT := hide T
  have HP := hide P
  have HR := hide hr
  have HF : Hid (∀ i, frm K W A O i = (A i + O i) * 1000000000 - W * 500000000) := hide (fun i => by unfold frm; rw [ks])
  have n64 := T.n64
  obtain ⟨B1, B2⟩ := T.b
  obtain ⟨t1, t2⟩ := ht
  clear T P hr ks hp
  generalize hv : locV B O (frm K W A O) (W * 1000000000) n t = v at *
  have HV := hide hv
  clear hv
  generalize frm K W A O = F at *
  subst kh
  go_enter Tryd.func33, Tryd.ntmps33
  go_wp2
  go_loopw [8, 20] (fun o i wr => ∃ k : Nat, k ≤ n ∧ i = .int .i64 k ∧ o = .int .i64 (offP B O k) ∧ (0 < k → F (k - 1) + W * 1000000000 ≤ t) ∧ Below (w.heap.size + 3) (((w.alloc (.cells #[.int .i64 B, .int .i64 X, .slice a n cap] 24)).alloc (.cells #[.int .i64 2, .int .i64 W] 26)).alloc (.cells #[.int .i64 0, .int .i64 0, .int .i64 0] 48)) wr) (fun _ i _ => n - (intOf i).toNat)
  case atStart => exact ⟨0, by omega, rfl, by simp [offP], fun h => by omega, Below.refl _ _⟩
  case round =>
    obtain ⟨k, hk, rfl, rfl, hin, hb⟩ := hrel
    have HI := hide hin
    have HB := hide hb
    clear hin
    obtain ⟨⟨c0, c1, c2, d0, d1⟩, ⟨z0, z1, z2, zf⟩, hs⟩ := cells8 hb
    have hbw := boxB3 hb
    have ob := offP_bd HT.out.b HT.out.o hk
    obtain ⟨ob1, ob2⟩ := ob
    by_cases hlt' : k < n
    · obtain ⟨b, off, rfl, hlt, hc⟩ := HR.out.at_ (by omega)
      have hc0 : wr.cell? ⟨b, off + k * 2, none⟩ = some (.int .i64 (A k)) := (hbw.cell (p := ⟨b, off + k * 2, none⟩) hlt).trans (hc k hlt').1
      have hc1 : wr.cell? ⟨b, off + k * 2 + 1, none⟩ = some (.int .i64 (O k)) := (hbw.cell (p := ⟨b, off + k * 2 + 1, none⟩) hlt).trans (hc k hlt').2
      have hbl : b < wr.heap.size := by omega
      have HBW := hide hbw
      clear hc hb hbw
      have C := hide fun W' => change_any (A k) (O k) W' (HT.out.a k hlt') (HT.out.o k hlt')
      obtain ⟨a1, a2⟩ := HT.out.a k hlt'
      obtain ⟨o1, o2⟩ := HT.out.o k hlt'
      have HFk : Hid (F k = (A k + O k) * 1000000000 - W * 500000000) := hide (HF.out k)
      have N1 := hide (Box2.new (T := 40) wr (A k) (O k))
      have HB2 := hide (HB.out.alloc (by omega) (.cells #[.int .i64 (A k), .int .i64 (O k)] 40))
      clear hlt
      go_wp2_with fail
      refine (C.out _).mono ?_
      rintro e w2 ⟨rfl, h2⟩
      have b2 := HB2.out.trans (h2.mono (by have := HB2.out.size; simp at this ⊢; omega))
      obtain ⟨n0, n1, ns⟩ := N1.out.step h2
      have HB3 := hide b2
      clear c0 c1 c2 d0 d1 z0 z1 z2 zf hs hc0 hc1 hbl h2 C N1 HB2
      obtain ⟨⟨c0, c1, c2, d0, d1⟩, ⟨z0, z1, z2, zf⟩, hs⟩ := cells8 b2
      have f0 := zf 0
      have f1 := zf 1
      have f2 := zf 2
      have bw := boxB3 b2
      clear b2 zf
      by_cases g1 : t < (A k + O k) * 1000000000 - W * 500000000
      · have E := loc_out HP.out hk HI.out (fun _ => by have := HFk.out; omega)
        rw [HV.out] at E
        subst E
        have HBW2 := hide bw
        clear bw
        go_wp2
        refine bodyPost_ret (v := .agg #[.int .i64 (offP B O k), .int .i64 0, .int .i64 0]) (by simp [results, Tryd.results33, go_sem, *]) rfl ?_
        refine ⟨rfl, ?_⟩
        repeat (with_reducible refine Below.setCell ?_ (by simp; omega) _)
        exact HBW2.out
      · by_cases g2 : t < (A k + O k) * 1000000000 - W * 500000000 + W * 1000000000
        · have E := loc_in HP.out hlt' (by have := HFk.out; omega) (t := t) (by have := HFk.out; omega)
          rw [HV.out, HFk.out] at E
          subst E
          have HBW2 := hide bw
          clear bw
          go_wp2
          refine bodyPost_ret (v := .agg #[.int .i64 (offP B O k), .int .i64 (O k - offP B O k), .int .i64 (t - ((A k + O k) * 1000000000 - W * 500000000))]) (by simp [results, Tryd.results33, go_sem, *]) rfl ?_
          refine ⟨rfl, ?_⟩
          repeat (with_reducible refine Below.setCell ?_ (by simp; omega) _)
          exact HBW2.out
        · have HG : Hid (F k + W * 1000000000 ≤ t) := hide (by have := HFk.out; omega)
          clear bw
          go_wp2
          go_roundw
          case rel => exact ⟨k + 1, by omega, by go_num, by rw [offP_succ], fun _ => by rw [Nat.add_sub_cancel]; exact HG.out, HB3.out⟩
          case measure => simp [intOf]; omega
    · have e : k = n := by omega
      have E := loc_out HP.out hk HI.out (fun h => absurd h hlt')
      rw [HV.out] at E
      subst E
      have HBW2 := hide hbw
      have f0 := zf 0
      have f1 := zf 1
      have f2 := zf 2
      subst e
      clear hb hbw zf
      go_wp2
      refine bodyPost_ret (v := .agg #[.int .i64 (offP B O k), .int .i64 0, .int .i64 0]) (by simp [results, Tryd.results33, go_sem, *]) rfl ?_
      refine ⟨rfl, ?_⟩
      repeat (with_reducible refine Below.setCell ?_ (by simp; omega) _)
      exact HBW2.out
set_option maxRecDepth 100000 in
set_option maxHeartbeats 3200000 in
theorem locate_ahead (B X : Int) (a : Option Addr) (n cap : Nat) (A O : Nat → Int) (K W t : Int) (w : World) (hr : Ents w a n A O) (T : Tab B X A O n) (hp : KW K W) (ht : -8000000000000000000 ≤ t ∧ t ≤ 8000000000000000000) (k2 : (K == 2) = false) (k3 : (K == 3) = true) (w1 : 2 ≤ W) (w2 : W ≤ 172800) (ks : shf K W = W * 1000000000) :
    Calls Tryd.prog 33 #[.agg #[.int .i64 B, .int .i64 X, .slice a n cap], .agg #[.int .i64 K, .int .i64 W], .int .i64 t] w fun e w' => e = .returned (.agg #[.int .i64 (locV B O (frm K W A O) (W * 1000000000) n t).1, .int .i64 (locV B O (frm K W A O) (W * 1000000000) n t).2.1, .int .i64 (locV B O (frm K W A O) (W * 1000000000) n t).2.2]) ∧ Below w.heap.size w w' := by
  have P := pol_of T hp
  have hn := hr.1
  have HT := hide T
  have HP := hide P
  have HR := hide hr
  have HF : Hid (∀ i, frm K W A O i = (A i + O i) * 1000000000 - W * 1000000000) := hide (fun i => by unfold frm; rw [ks])
  have n64 := T.n64
  obtain ⟨B1, B2⟩ := T.b
  obtain ⟨t1, t2⟩ := ht
  clear T P hr ks hp
  generalize hv : locV B O (frm K W A O) (W * 1000000000) n t = v at *
  have HV := hide hv
  clear hv
  generalize frm K W A O = F at *
  skip
  go_enter Tryd.func33, Tryd.ntmps33
  go_wp2
  go_loopw [8, 20] (fun o i wr => ∃ k : Nat, k ≤ n ∧ i = .int .i64 k ∧ o = .int .i64 (offP B O k) ∧ (0 < k → F (k - 1) + W * 1000000000 ≤ t) ∧ Below (w.heap.size + 3) (((w.alloc (.cells #[.int .i64 B, .int .i64 X, .slice a n cap] 24)).alloc (.cells #[.int .i64 K, .int .i64 W] 26)).alloc (.cells #[.int .i64 0, .int .i64 0, .int .i64 0] 48)) wr) (fun _ i _ => n - (intOf i).toNat)
  case atStart => exact ⟨0, by omega, rfl, by simp [offP], fun h => by omega, Below.refl _ _⟩
  case round =>
    obtain ⟨k, hk, rfl, rfl, hin, hb⟩ := hrel
    have HI := hide hin
    have HB := hide hb
    clear hin
    obtain ⟨⟨c0, c1, c2, d0, d1⟩, ⟨z0, z1, z2, zf⟩, hs⟩ := cells8 hb
    have hbw := boxB3 hb
    have ob := offP_bd HT.out.b HT.out.o hk
    obtain ⟨ob1, ob2⟩ := ob
    by_cases hlt' : k < n
    · obtain ⟨b, off, rfl, hlt, hc⟩ := HR.out.at_ (by omega)
      have hc0 : wr.cell? ⟨b, off + k * 2, none⟩ = some (.int .i64 (A k)) := (hbw.cell (p := ⟨b, off + k * 2, none⟩) hlt).trans (hc k hlt').1
      have hc1 : wr.cell? ⟨b, off + k * 2 + 1, none⟩ = some (.int .i64 (O k)) := (hbw.cell (p := ⟨b, off + k * 2 + 1, none⟩) hlt).trans (hc k hlt').2
      have hbl : b < wr.heap.size := by omega
      have HBW := hide hbw
      clear hc hb hbw
      have C := hide fun W' => change_any (A k) (O k) W' (HT.out.a k hlt') (HT.out.o k hlt')
      obtain ⟨a1, a2⟩ := HT.out.a k hlt'
      obtain ⟨o1, o2⟩ := HT.out.o k hlt'
      have HFk : Hid (F k = (A k + O k) * 1000000000 - W * 1000000000) := hide (HF.out k)
      have N1 := hide (Box2.new (T := 40) wr (A k) (O k))
      have HB2 := hide (HB.out.alloc (by omega) (.cells #[.int .i64 (A k), .int .i64 (O k)] 40))
      clear hlt
      go_wp2_with fail
      refine (C.out _).mono ?_
      rintro e w2 ⟨rfl, h2⟩
      have b2 := HB2.out.trans (h2.mono (by have := HB2.out.size; simp at this ⊢; omega))
      obtain ⟨n0, n1, ns⟩ := N1.out.step h2
      have HB3 := hide b2
      clear c0 c1 c2 d0 d1 z0 z1 z2 zf hs hc0 hc1 hbl h2 C N1 HB2
      obtain ⟨⟨c0, c1, c2, d0, d1⟩, ⟨z0, z1, z2, zf⟩, hs⟩ := cells8 b2
      have f0 := zf 0
      have f1 := zf 1
      have f2 := zf 2
      have bw := boxB3 b2
      clear b2 zf
      by_cases g1 : t < (A k + O k) * 1000000000 - W * 1000000000
      · have E := loc_out HP.out hk HI.out (fun _ => by have := HFk.out; omega)
        rw [HV.out] at E
        subst E
        have HBW2 := hide bw
        clear bw
        go_wp2
        refine bodyPost_ret (v := .agg #[.int .i64 (offP B O k), .int .i64 0, .int .i64 0]) (by simp [results, Tryd.results33, go_sem, *]) rfl ?_
        refine ⟨rfl, ?_⟩
        repeat (with_reducible refine Below.setCell ?_ (by simp; omega) _)
        exact HBW2.out
      · by_cases g2 : t < (A k + O k) * 1000000000 - W * 1000000000 + W * 1000000000
        · have E := loc_in HP.out hlt' (by have := HFk.out; omega) (t := t) (by have := HFk.out; omega)
          rw [HV.out, HFk.out] at E
          subst E
          have HBW2 := hide bw
          clear bw
          go_wp2
          refine bodyPost_ret (v := .agg #[.int .i64 (offP B O k), .int .i64 (O k - offP B O k), .int .i64 (t - ((A k + O k) * 1000000000 - W * 1000000000))]) (by simp [results, Tryd.results33, go_sem, *]) rfl ?_
          refine ⟨rfl, ?_⟩
          repeat (with_reducible refine Below.setCell ?_ (by simp; omega) _)
          exact HBW2.out
        · have HG : Hid (F k + W * 1000000000 ≤ t) := hide (by have := HFk.out; omega)
          clear bw
          go_wp2
          go_roundw
          case rel => exact ⟨k + 1, by omega, by go_num, by rw [offP_succ], fun _ => by rw [Nat.add_sub_cancel]; exact HG.out, HB3.out⟩
          case measure => simp [intOf]; omega
    · have e : k = n := by omega
      have E := loc_out HP.out hk HI.out (fun h => absurd h hlt')
      rw [HV.out] at E
      subst E
      have HBW2 := hide hbw
      have f0 := zf 0
      have f1 := zf 1
      have f2 := zf 2
      subst e
      clear hb hbw zf
      go_wp2
      refine bodyPost_ret (v := .agg #[.int .i64 (offP B O k), .int .i64 0, .int .i64 0]) (by simp [results, Tryd.results33, go_sem, *]) rfl ?_
      refine ⟨rfl, ?_⟩
      repeat (with_reducible refine Below.setCell ?_ (by simp; omega) _)
      exact HBW2.out
set_option maxRecDepth 100000 in
set_option maxHeartbeats 3200000 in
theorem locate_behind (B X : Int) (a : Option Addr) (n cap : Nat) (A O : Nat → Int) (K W t : Int) (w : World) (hr : Ents w a n A O) (T : Tab B X A O n) (hp : KW K W) (ht : -8000000000000000000 ≤ t ∧ t ≤ 8000000000000000000) (k2 : (K == 2) = false) (k3 : (K == 3) = false) (w1 : 0 ≤ W) (w2 : W ≤ 172800) (ks : shf K W = 0) :
    Calls Tryd.prog 33 #[.agg #[.int .i64 B, .int .i64 X, .slice a n cap], .agg #[.int .i64 K, .int .i64 W], .int .i64 t] w fun e w' => e = .returned (.agg #[.int .i64 (locV B O (frm K W A O) (W * 1000000000) n t).1, .int .i64 (locV B O (frm K W A O) (W * 1000000000) n t).2.1, .int .i64 (locV B O (frm K W A O) (W * 1000000000) n t).2.2]) ∧ Below w.heap.size w w' := by
  have P := pol_of T hp
  have hn := hr.1
  have HT := hide T
  have HP := hide P
  have HR := hide hr
  have HF : Hid (∀ i, frm K W A O i = (A i + O i) * 1000000000) := hide (fun i => by unfold frm; rw [ks]; omega)
  have n64 := T.n64
  obtain ⟨B1, B2⟩ := T.b
  obtain ⟨t1, t2⟩ := ht
  clear T P hr ks hp
  generalize hv : locV B O (frm K W A O) (W * 1000000000) n t = v at *
  have HV := hide hv
  clear hv
  generalize frm K W A O = F at *
  skip
  go_enter Tryd.func33, Tryd.ntmps33
  go_wp2
  go_loopw [8, 20] (fun o i wr => ∃ k : Nat, k ≤ n ∧ i = .int .i64 k ∧ o = .int .i64 (offP B O k) ∧ (0 < k → F (k - 1) + W * 1000000000 ≤ t) ∧ Below (w.heap.size + 3) (((w.alloc (.cells #[.int .i64 B, .int .i64 X, .slice a n cap] 24)).alloc (.cells #[.int .i64 K, .int .i64 W] 26)).alloc (.cells #[.int .i64 0, .int .i64 0, .int .i64 0] 48)) wr) (fun _ i _ => n - (intOf i).toNat)
  case atStart => exact ⟨0, by omega, rfl, by simp [offP], fun h => by omega, Below.refl _ _⟩
  case round =>
    obtain ⟨k, hk, rfl, rfl, hin, hb⟩ := hrel
    have HI := hide hin
    have HB := hide hb
    clear hin
    obtain ⟨⟨c0, c1, c2, d0, d1⟩, ⟨z0, z1, z2, zf⟩, hs⟩ := cells8 hb
    have hbw := boxB3 hb
    have ob := offP_bd HT.out.b HT.out.o hk
    obtain ⟨ob1, ob2⟩ := ob
    by_cases hlt' : k < n
    · obtain ⟨b, off, rfl, hlt, hc⟩ := HR.out.at_ (by omega)
      have hc0 : wr.cell? ⟨b, off + k * 2, none⟩ = some (.int .i64 (A k)) := (hbw.cell (p := ⟨b, off + k * 2, none⟩) hlt).trans (hc k hlt').1
      have hc1 : wr.cell? ⟨b, off + k * 2 + 1, none⟩ = some (.int .i64 (O k)) := (hbw.cell (p := ⟨b, off + k * 2 + 1, none⟩) hlt).trans (hc k hlt').2
      have hbl : b < wr.heap.size := by omega
      have HBW := hide hbw
      clear hc hb hbw
      have C := hide fun W' => change_any (A k) (O k) W' (HT.out.a k hlt') (HT.out.o k hlt')
      obtain ⟨a1, a2⟩ := HT.out.a k hlt'
      obtain ⟨o1, o2⟩ := HT.out.o k hlt'
      have HFk : Hid (F k = (A k + O k) * 1000000000) := hide (HF.out k)
      have N1 := hide (Box2.new (T := 40) wr (A k) (O k))
      have HB2 := hide (HB.out.alloc (by omega) (.cells #[.int .i64 (A k), .int .i64 (O k)] 40))
      clear hlt
      go_wp2_with fail
      refine (C.out _).mono ?_
      rintro e w2 ⟨rfl, h2⟩
      have b2 := HB2.out.trans (h2.mono (by have := HB2.out.size; simp at this ⊢; omega))
      obtain ⟨n0, n1, ns⟩ := N1.out.step h2
      have HB3 := hide b2
      clear c0 c1 c2 d0 d1 z0 z1 z2 zf hs hc0 hc1 hbl h2 C N1 HB2
      obtain ⟨⟨c0, c1, c2, d0, d1⟩, ⟨z0, z1, z2, zf⟩, hs⟩ := cells8 b2
      have f0 := zf 0
      have f1 := zf 1
      have f2 := zf 2
      have bw := boxB3 b2
      clear b2 zf
      by_cases g1 : t < (A k + O k) * 1000000000
      · have E := loc_out HP.out hk HI.out (fun _ => by have := HFk.out; omega)
        rw [HV.out] at E
        subst E
        have HBW2 := hide bw
        clear bw
        go_wp2
        refine bodyPost_ret (v := .agg #[.int .i64 (offP B O k), .int .i64 0, .int .i64 0]) (by simp [results, Tryd.results33, go_sem, *]) rfl ?_
        refine ⟨rfl, ?_⟩
        repeat (with_reducible refine Below.setCell ?_ (by simp; omega) _)
        exact HBW2.out
      · by_cases g2 : t < (A k + O k) * 1000000000 + W * 1000000000
        · have E := loc_in HP.out hlt' (by have := HFk.out; omega) (t := t) (by have := HFk.out; omega)
          rw [HV.out, HFk.out] at E
          subst E
          have HBW2 := hide bw
          clear bw
          go_wp2
          refine bodyPost_ret (v := .agg #[.int .i64 (offP B O k), .int .i64 (O k - offP B O k), .int .i64 (t - ((A k + O k) * 1000000000))]) (by simp [results, Tryd.results33, go_sem, *]) rfl ?_
          refine ⟨rfl, ?_⟩
          repeat (with_reducible refine Below.setCell ?_ (by simp; omega) _)
          exact HBW2.out
        · have HG : Hid (F k + W * 1000000000 ≤ t) := hide (by have := HFk.out; omega)
          clear bw
          go_wp2
          go_roundw
          case rel => exact ⟨k + 1, by omega, by go_num, by rw [offP_succ], fun _ => by rw [Nat.add_sub_cancel]; exact HG.out, HB3.out⟩
          case measure => simp [intOf]; omega
    · have e : k = n := by omega
      have E := loc_out HP.out hk HI.out (fun h => absurd h hlt')
      rw [HV.out] at E
      subst E
      have HBW2 := hide hbw
      have f0 := zf 0
      have f1 := zf 1
      have f2 := zf 2
      subst e
      clear hb hbw zf
      go_wp2
      refine bodyPost_ret (v := .agg #[.int .i64 (offP B O k), .int .i64 0, .int .i64 0]) (by simp [results, Tryd.results33, go_sem, *]) rfl ?_
      refine ⟨rfl, ?_⟩
      repeat (with_reducible refine Below.setCell ?_ (by simp; omega) _)
      exact HBW2.out
theorem locate_any (B X : Int) (a : Option Addr) (n cap : Nat) (A O : Nat → Int) (K W t : Int) (w : World) (hr : Ents w a n A O) (T : Tab B X A O n) (hp : KW K W) (ht : -8000000000000000000 ≤ t ∧ t ≤ 8000000000000000000) :
    Calls Tryd.prog 33 #[.agg #[.int .i64 B, .int .i64 X, .slice a n cap], .agg #[.int .i64 K, .int .i64 W], .int .i64 t] w fun e w' => e = .returned (.agg #[.int .i64 (locV B O (frm K W A O) (W * 1000000000) n t).1, .int .i64 (locV B O (frm K W A O) (W * 1000000000) n t).2.1, .int .i64 (locV B O (frm K W A O) (W * 1000000000) n t).2.2]) ∧ Below w.heap.size w w' := by
  rcases shf_ways hp with ⟨h1, h2, h3, h4, h5⟩ | ⟨h1, h2, h3, h4, h5⟩ | ⟨h1, h2, h3, h4, h5⟩
  · exact locate_mid B X a n cap A O K W t w hr T hp ht h1 h2 h3 h4 h5
  · exact locate_ahead B X a n cap A O K W t w hr T hp ht h1 h2 h3 h4 h5
  · exact locate_behind B X a n cap A O K W t w hr T hp ht h1 h2 h3 h4 h5
end Go.Proofs.YtnnfaejejnfckaaDoor.Smr
