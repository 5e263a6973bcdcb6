/- The contracts of the reference's alarm (layer 49): high, low, Raised, Since, Counts, New. -/
import Derived.Test.YtgkcegmbjiodgaaAlmG
import Derived.Test.YtgkcegmbjiodgaaFeedPlain
import Derived.Handy
namespace Go.Proofs.Ytgkcegmbjiodgaa.AlmW
open Go.RowKit Alm Aid App
def rcells (c : Conf) (s : St) (an : Bool) (v : Value) : Array Value :=
  #[.int .i64 c.hi, .int .i64 c.lo, .int .i64 c.hold, .int .i64 c.clr, .int .i64 c.sil, v, .bool an, .bool s.raised, .int .i64 s.last, .int .i64 s.noti, .int .i64 s.since, .int .i64 s.raises, .int .i64 s.clears, .int .i64 s.repeats]
def RefAt (w : World) (g : Nat) (c : Conf) (s : St) (an : Bool) (v : Value) : Prop := w.heap[g]? = some (.cells (rcells c s an v) 50 (0, 0))
theorem RefAt.cells {w : World} {g : Nat} {c : Conf} {s : St} {an : Bool} {v : Value} (h : RefAt w g c s an v) :
    w.cell? ⟨g, 0, none⟩ = some (.int .i64 c.hi) ∧ w.cell? ⟨g, 1, none⟩ = some (.int .i64 c.lo) ∧ w.cell? ⟨g, 2, none⟩ = some (.int .i64 c.hold) ∧ w.cell? ⟨g, 3, none⟩ = some (.int .i64 c.clr) ∧ w.cell? ⟨g, 4, none⟩ = some (.int .i64 c.sil) ∧
    w.cell? ⟨g, 5, none⟩ = some v ∧ w.cell? ⟨g, 6, none⟩ = some (.bool an) ∧ w.cell? ⟨g, 7, none⟩ = some (.bool s.raised) ∧ w.cell? ⟨g, 8, none⟩ = some (.int .i64 s.last) ∧ w.cell? ⟨g, 9, none⟩ = some (.int .i64 s.noti) ∧
    w.cell? ⟨g, 10, none⟩ = some (.int .i64 s.since) ∧ w.cell? ⟨g, 11, none⟩ = some (.int .i64 s.raises) ∧ w.cell? ⟨g, 12, none⟩ = some (.int .i64 s.clears) ∧ w.cell? ⟨g, 13, none⟩ = some (.int .i64 s.repeats) := by
  have f : ∀ i, w.cell? ⟨g, i, none⟩ = (rcells c s an v)[i]? := fun i => cell_of_row w g i _ _ _ h
  refine ⟨f 0, f 1, f 2, f 3, f 4, f 5, f 6, f 7, f 8, f 9, f 10, f 11, f 12, f 13⟩
theorem RefAt.free {w : World} {g : Nat} {c : Conf} {s : St} {an : Bool} {v : Value} (h : RefAt w g c s an v) (i : Nat) : w.frozen? ⟨g, i, none⟩ = false := by
  unfold RefAt at h
  simp [World.frozen?, h]
theorem RefAt.lt {w : World} {g : Nat} {c : Conf} {s : St} {an : Bool} {v : Value} (h : RefAt w g c s an v) : g < w.heap.size := by
  unfold RefAt at h
  rcases Nat.lt_or_ge g w.heap.size with hlt | hge
  · exact hlt
  · rw [Array.getElem?_eq_none hge] at h; cases h
theorem RefAt.set {w : World} {g : Nat} {c : Conf} {s s' : St} {an an' : Bool} {v v' : Value} (h : RefAt w g c s an v) (i : Nat) (u : Value) (he : (rcells c s an v).setIfInBounds i u = rcells c s' an' v') : RefAt (w.setCell ⟨g, i, none⟩ u) g c s' an' v' := by
  have := set_block h i u
  rw [he] at this
  exact this
theorem RefAt.new (w : World) (c : Conf) : RefAt (w.alloc (.cells (rcells c St.new false (.slice none 0 0)) 50)) w.heap.size c St.new false (.slice none 0 0) := heap_alloc_new w _
/-- w' is as w below B, but for the blocks of S -/
structure Kp (S : Nat → Prop) (B : Nat) (w w' : World) : Prop where
  os : w'.os = w.os
  tape : w'.tape = w.tape
  output : w'.output = w.output
  size : w.heap.size ≤ w'.heap.size
  block : ∀ k, k < B → ¬ S k → w'.heap[k]? = w.heap[k]?
theorem Kp.refl (S : Nat → Prop) (B : Nat) (w : World) : Kp S B w w := ⟨rfl, rfl, rfl, Nat.le_refl _, fun _ _ _ => rfl⟩
theorem Kp.trans {S : Nat → Prop} {B : Nat} {a b c : World} (h : Kp S B a b) (k : Kp S B b c) : Kp S B a c :=
  ⟨k.os.trans h.os, k.tape.trans h.tape, k.output.trans h.output, Nat.le_trans h.size k.size, fun i hi hs => (k.block i hi hs).trans (h.block i hi hs)⟩
theorem Kp.sub {S T : Nat → Prop} {B : Nat} {a b : World} (h : Kp S B a b) (hs : ∀ k, S k → T k) : Kp T B a b :=
  ⟨h.os, h.tape, h.output, h.size, fun i hi ht => h.block i hi fun q => ht (hs i q)⟩
theorem Kp.drewN {S : Nat → Prop} {B : Nat} {a b : World} (h : Kp S B a b) (n : Nat) : Kp S B a (b.drewN n) := ⟨h.os, h.tape, h.output, h.size, h.block⟩
theorem Kp.drew {S : Nat → Prop} {B : Nat} {a b : World} (h : Kp S B a b) : Kp S B a b.drew := ⟨h.os, h.tape, h.output, h.size, h.block⟩
theorem Kp.setCell {S : Nat → Prop} {B : Nat} {a b : World} (h : Kp S B a b) {p : Addr} (hp : S p.block ∨ B ≤ p.block) (u : Value) : Kp S B a (b.setCell p u) :=
  ⟨h.os, h.tape, h.output, by simpa [World.setCell] using h.size, fun i hi hs => (Below.heap_setCell b p u i (by rintro rfl; rcases hp with q | q; exact hs q; omega)).trans (h.block i hi hs)⟩
theorem Kp.alloc {S : Nat → Prop} {B : Nat} {a b : World} (h : Kp S B a b) (hB : B ≤ b.heap.size) (o : Obj) : Kp S B a (b.alloc o) :=
  ⟨h.os, h.tape, h.output, Nat.le_trans h.size (by simp), fun i hi hs => (heap_alloc_old b o (by omega)).trans (h.block i hi hs)⟩
theorem Kp.grown {S : Nat → Prop} {B : Nat} {a b c : World} {row : Option Nat} (h : Kp S B a b) (k : b.grownBy c row) (hB : B ≤ b.heap.size) (hr : ∀ g, row = some g → S g ∨ B ≤ g) : Kp S B a c :=
  ⟨k.os.trans h.os, k.tape.trans h.tape, k.output.trans h.output, Nat.le_trans h.size k.size, fun i hi hs => (k.block i (by omega) (fun e => by rcases hr i e.symm with q | q; exact hs q; omega)).trans (h.block i hi hs)⟩
theorem Kp.below {S : Nat → Prop} {B : Nat} {a b : World} (h : Kp S B a b) (hs : ∀ k, S k → a.heap.size ≤ k) (hB : a.heap.size ≤ B) : Below a.heap.size a b :=
  ⟨h.os, h.tape, h.output, h.size, fun i hi => h.block i (by omega) (fun q => by have := hs i q; omega)⟩
theorem Kp.cell {S : Nat → Prop} {B : Nat} {a b : World} (h : Kp S B a b) {k o : Nat} (hk : k < B) (hs : ¬ S k) : b.cell? ⟨k, o, none⟩ = a.cell? ⟨k, o, none⟩ := World.cell?_of_block (h.block k hk hs)
theorem own_list {w : World} {base : Nat} {e : TypeId} {v : Value} {m : Nat} {A V : Nat → Int} (h : w.ownsRow base e 2 v m (flat A V m)) :
    ∃ p cap, v = .slice p m cap ∧ (0 < m → ∃ b, p = some ⟨b, 0, none⟩ ∧ base ≤ b ∧ b < w.heap.size ∧ ∀ i, i < m → w.cell? ⟨b, i * 2, none⟩ = some (.int .i64 (A i)) ∧ w.cell? ⟨b, i * 2 + 1, none⟩ = some (.int .i64 (V i))) := by
  rcases h.2 with ⟨rfl, rfl⟩ | ⟨g, cap, cur, rfl, hb, hg, hnc, hcm, hsz, htk⟩
  · exact ⟨none, 0, rfl, fun q => absurd q (by omega)⟩
  · refine ⟨_, cap, rfl, fun h0 => ⟨g, rfl, hb, ?_, fun i hi => ?_⟩⟩
    · rcases Nat.lt_or_ge g w.heap.size with hlt | hge
      · exact hlt
      · rw [Array.getElem?_eq_none hge] at hg; cases hg
    · obtain ⟨f1, f2⟩ := flat_at A V m i hi
      rw [← htk, List.getElem?_take_of_lt (by omega), Array.getElem?_toList] at f1
      rw [← htk, List.getElem?_take_of_lt (by omega), Array.getElem?_toList] at f2
      rw [cell_of_row w g _ cur e (0, 0) hg, cell_of_row w g _ cur e (0, 0) hg]
      exact ⟨f1, f2⟩
set_option maxRecDepth 100000 in
set_option maxHeartbeats 3200000 in
theorem high_any (g : Nat) (c : Conf) (s : St) (an : Bool) (p : Option Addr) (cap m : Nat) (V : Nat → Int) (w : World) (h : RefAt w g c s an (.slice p m cap)) (hm : m ≤ 1000)
    (hl : 0 < m → ∃ b, p = some ⟨b, 0, none⟩ ∧ ∀ i, i < m → w.cell? ⟨b, i * 2 + 1, none⟩ = some (.int .i64 (V i))) :
    Calls Try.prog 25 #[.pointer (some ⟨g, 0, none⟩)] w fun e w' => e = .returned (.int .i64 (rn (fun v => decide (c.hi < v)) V m)) ∧ ∃ z, w' = w.drewN z := by
  obtain ⟨c0, _, _, _, _, c5, _, _, _, _, _, _, _, _⟩ := h.cells
  clear h
  have HL := hide hl
  clear hl
  have R1 := rn_le (fun v => decide (c.hi < v)) V m
  have R2 := hide (fun j => rn_all (p := fun v => decide (c.hi < v)) (V := V) (m := m) (j := j))
  have R3 := hide (rn_end (p := fun v => decide (c.hi < v)) (V := V) (m := m))
  obtain ⟨R, hR⟩ : ∃ R, R = rn (fun v => decide (c.hi < v)) V m := ⟨_, rfl⟩
  rw [← hR] at R1 R2 R3 ⊢
  clear hR
  go_enter Try.func25, Try.ntmps25
  go_wp2
  go_loopw [3] (fun i wr => ∃ k : Nat, k ≤ R ∧ i = .int .i64 k ∧ ∃ z, wr = w.drewN z) (fun i _ => m - (intOf i).toNat)
  case atStart => exact ⟨0, by omega, rfl, 0, rfl⟩
  case round =>
    obtain ⟨k, hk, rfl, z, rfl⟩ := hrel
    by_cases hlt : k < m
    · obtain ⟨b, rfl, hc⟩ := HL.out (by omega)
      obtain ⟨j, hj⟩ : ∃ j : Nat, j = m - 1 - k := ⟨_, rfl⟩
      have hv := hc j (by omega)
      have hji : (m : Int) - 1 - (k : Int) = (j : Int) := by omega
      have hjm : j < m := by omega
      have hlt2 : (k : Int) < (m : Int) := by omega
      obtain ⟨u, hu⟩ : ∃ u, u = V j := ⟨_, rfl⟩
      rw [← hu] at hv
      by_cases h2 : k < R
      · have q := R2.out k h2
        rw [← hj, ← hu] at q
        have q : c.hi < u := by simpa using q
        have HZ := hide hj
        clear hc hu hj
        go_wp2
        go_quiet (fail)
        go_wp2
        go_roundw
        case rel => exact ⟨k + 1, by omega, by go_num, _, rfl⟩
        case measure => (simp [intOf]) <;> omega
      · have q := R3.out (by omega)
        rw [show m - 1 - R = j by omega, ← hu] at q
        have q : u ≤ c.hi := by simpa using q
        obtain rfl : k = R := by omega
        clear hc hu hj
        go_wp2
        go_quiet (fail)
        go_wp2
        go_ret
        exact ⟨rfl, _, World.drewN_drewN w z _⟩
    · obtain rfl : k = R := by omega
      have hlt2 : (m : Int) ≤ (k : Int) := by omega
      go_wp2
      go_quiet (fail)
      go_wp2
      go_ret
      exact ⟨rfl, _, World.drewN_drewN w z _⟩
set_option maxRecDepth 100000 in
set_option maxHeartbeats 3200000 in
theorem low_any (g : Nat) (c : Conf) (s : St) (an : Bool) (p : Option Addr) (cap m : Nat) (V : Nat → Int) (w : World) (h : RefAt w g c s an (.slice p m cap)) (hm : m ≤ 1000)
    (hl : 0 < m → ∃ b, p = some ⟨b, 0, none⟩ ∧ ∀ i, i < m → w.cell? ⟨b, i * 2 + 1, none⟩ = some (.int .i64 (V i))) :
    Calls Try.prog 26 #[.pointer (some ⟨g, 0, none⟩)] w fun e w' => e = .returned (.int .i64 (rn (fun v => decide (v < c.lo)) V m)) ∧ ∃ z, w' = w.drewN z := by
  obtain ⟨_, c0, _, _, _, c5, _, _, _, _, _, _, _, _⟩ := h.cells
  clear h
  have HL := hide hl
  clear hl
  have R1 := rn_le (fun v => decide (v < c.lo)) V m
  have R2 := hide (fun j => rn_all (p := fun v => decide (v < c.lo)) (V := V) (m := m) (j := j))
  have R3 := hide (rn_end (p := fun v => decide (v < c.lo)) (V := V) (m := m))
  obtain ⟨R, hR⟩ : ∃ R, R = rn (fun v => decide (v < c.lo)) V m := ⟨_, rfl⟩
  rw [← hR] at R1 R2 R3 ⊢
  clear hR
  go_enter Try.func26, Try.ntmps26
  go_wp2
  go_loopw [3] (fun i wr => ∃ k : Nat, k ≤ R ∧ i = .int .i64 k ∧ ∃ z, wr = w.drewN z) (fun i _ => m - (intOf i).toNat)
  case atStart => exact ⟨0, by omega, rfl, 0, rfl⟩
  case round =>
    obtain ⟨k, hk, rfl, z, rfl⟩ := hrel
    by_cases hlt : k < m
    · obtain ⟨b, rfl, hc⟩ := HL.out (by omega)
      obtain ⟨j, hj⟩ : ∃ j : Nat, j = m - 1 - k := ⟨_, rfl⟩
      have hv := hc j (by omega)
      have hji : (m : Int) - 1 - (k : Int) = (j : Int) := by omega
      have hjm : j < m := by omega
      have hlt2 : (k : Int) < (m : Int) := by omega
      obtain ⟨u, hu⟩ : ∃ u, u = V j := ⟨_, rfl⟩
      rw [← hu] at hv
      by_cases h2 : k < R
      · have q := R2.out k h2
        rw [← hj, ← hu] at q
        have q : u < c.lo := by simpa using q
        have HZ := hide hj
        clear hc hu hj
        go_wp2
        go_quiet (fail)
        go_wp2
        go_roundw
        case rel => exact ⟨k + 1, by omega, by go_num, _, rfl⟩
        case measure => (simp [intOf]) <;> omega
      · have q := R3.out (by omega)
        rw [show m - 1 - R = j by omega, ← hu] at q
        have q : c.lo ≤ u := by simpa using q
        obtain rfl : k = R := by omega
        clear hc hu hj
        go_wp2
        go_quiet (fail)
        go_wp2
        go_ret
        exact ⟨rfl, _, World.drewN_drewN w z _⟩
    · obtain rfl : k = R := by omega
      have hlt2 : (m : Int) ≤ (k : Int) := by omega
      go_wp2
      go_quiet (fail)
      go_wp2
      go_ret
      exact ⟨rfl, _, World.drewN_drewN w z _⟩
theorem RRaised_any (g : Nat) (c : Conf) (s : St) (an : Bool) (v : Value) (w : World) (h : RefAt w g c s an v) :
    Calls Try.prog 20 #[.pointer (some ⟨g, 0, none⟩)] w fun e w' => e = .returned (.bool s.raised) ∧ w = w' := by
  obtain ⟨_, _, _, _, _, _, _, c8, _, _, _, _, _, _⟩ := h.cells
  clear h
  go_enter Try.func20, Try.ntmps20
  go_wp2
  go_ret
  exact ⟨rfl, rfl⟩
theorem RSince_any (g : Nat) (c : Conf) (s : St) (an : Bool) (v : Value) (w : World) (h : RefAt w g c s an v) :
    Calls Try.prog 18 #[.pointer (some ⟨g, 0, none⟩)] w fun e w' => e = .returned (.tuple #[.int .i64 (if s.raised = true then s.since else 0), .bool s.raised]) ∧ w = w' := by
  obtain ⟨_, _, _, _, _, _, _, _, _, _, c9, _, _, _⟩ := h.cells
  have CR := hide (RRaised_any g c s an v w h)
  clear h
  generalize s.raised = r at *
  cases r
  all_goals
    go_enter Try.func18, Try.ntmps18
    go_wp2_with fail
    with_reducible refine CR.out.mono ?_
    rintro e _ ⟨rfl, rfl⟩
    go_wp2
    go_ret2
    exact ⟨rfl, rfl⟩
theorem RCounts_any (g : Nat) (c : Conf) (s : St) (an : Bool) (v : Value) (w : World) (h : RefAt w g c s an v) :
    Calls Try.prog 22 #[.pointer (some ⟨g, 0, none⟩)] w fun e w' => e = .returned (.tuple #[.int .i64 s.raises, .int .i64 s.clears, .int .i64 s.repeats]) ∧ ∃ n, w' = w.drewN n := by
  obtain ⟨_, _, _, _, _, _, _, _, _, _, _, c11, c12, c13⟩ := h.cells
  clear h
  go_enter Try.func22, Try.ntmps22
  go_wp2
  go_quiet (fail)
  go_wp2
  go_ret3
  exact ⟨rfl, _, rfl⟩
def RMade (w : World) (c : Conf) (e : Ending) (w' : World) : Prop := ∃ g, e = .returned (.pointer (some ⟨g, 0, none⟩)) ∧ w.heap.size ≤ g ∧ RefAt w' g c St.new false (.slice none 0 0) ∧ Below w.heap.size w w'
theorem RNew_bad (hi lo hold clr sil : Int) (w : World) (hz : chk ⟨hi, lo, hold, clr, sil⟩ ≠ 0) :
    Calls Try.prog 14 #[.agg #[.int .i64 hi, .int .i64 lo, .int .i64 hold, .int .i64 clr, .int .i64 sil]] w fun e w' => e = .returned (.pointer none) ∧ Below w.heap.size w w' := by
  have hb : Below w.heap.size w (w.alloc (.cells #[.int .i64 hi, .int .i64 lo, .int .i64 hold, .int .i64 clr, .int .i64 sil] 23)) := (Below.refl _ _).alloc (Nat.le_refl _) _
  have HB := hide hb
  have C := hide (RCheck_any hi lo hold clr sil)
  have hz' : (chk ⟨hi, lo, hold, clr, sil⟩ != 0) = true := by simpa using hz
  generalize chk ⟨hi, lo, hold, clr, sil⟩ = k at *
  clear hz hb
  go_enter Try.func14, Try.ntmps14
  go_wp2_with fail
  refine (C.out _).mono ?_
  rintro e w1 ⟨rfl, hb1⟩
  have hbw := HB.out.trans (hb1.mono (by simp))
  clear hb1
  go_wp2
  go_ret
  exact ⟨rfl, hbw⟩
theorem RNew_ok (hi lo hold clr sil : Int) (w : World) (hz : chk ⟨hi, lo, hold, clr, sil⟩ = 0) :
    Calls Try.prog 14 #[.agg #[.int .i64 hi, .int .i64 lo, .int .i64 hold, .int .i64 clr, .int .i64 sil]] w (RMade w ⟨hi, lo, hold, clr, sil⟩) := by
  have hb : Below w.heap.size w (w.alloc (.cells #[.int .i64 hi, .int .i64 lo, .int .i64 hold, .int .i64 clr, .int .i64 sil] 23)) := (Below.refl _ _).alloc (Nat.le_refl _) _
  have HB := hide hb
  have C := hide (RCheck_any hi lo hold clr sil)
  rw [hz] at C
  clear hz hb
  go_enter Try.func14, Try.ntmps14
  go_wp2_with fail
  refine (C.out _).mono ?_
  rintro e w1 ⟨rfl, hb1⟩
  have hbw := HB.out.trans (hb1.mono (by simp))
  have hs1 : w.heap.size < w1.heap.size := by have := hb1.size; simp at this; omega
  have k0 := (hb1.cell (p := ⟨w.heap.size, 0, none⟩) (by simp))
  have k1 := (hb1.cell (p := ⟨w.heap.size, 1, none⟩) (by simp))
  have k2 := (hb1.cell (p := ⟨w.heap.size, 2, none⟩) (by simp))
  have k3 := (hb1.cell (p := ⟨w.heap.size, 3, none⟩) (by simp))
  have k4 := (hb1.cell (p := ⟨w.heap.size, 4, none⟩) (by simp))
  simp [go_sem] at k0 k1 k2 k3 k4
  have HW := hide hbw
  clear hb1 hbw
  go_wp2
  go_ret
  exact ⟨_, rfl, Nat.le_of_lt hs1, heap_alloc_new w1 _, HW.out.alloc (Nat.le_of_lt hs1) _⟩
end Go.Proofs.Ytgkcegmbjiodgaa.AlmW
