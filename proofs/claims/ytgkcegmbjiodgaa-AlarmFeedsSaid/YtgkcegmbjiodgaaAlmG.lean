
/- The machine run over samples; how the laws' arguments are opened (layer 49). -/
import Derived.Test.YtgkcegmbjiodgaaAlmF
import Derived.Test.YtgkcegmbjiodgaaOpen
namespace Go.Proofs.Ytgkcegmbjiodgaa.AlmW
open Go.RowKit Alm Aid Opn Go.ChangeShapes Go.WideShapes
def runS (c : Conf) (A V : Nat → Int) : Nat → St
  | 0 => St.new
  | k + 1 => feedS c (runS c A V k) (A k) (V k)
theorem run_z (c : Conf) (A V : Nat → Int) (k : Nat) : Sz (runS c A V k) k := by
  induction k with
  | zero => exact Sz.new
  | succ k ih => exact ih.feed
theorem kind_cases (c : Conf) (s : St) (at_ v : Int) (hc : COk c) : (kind c s at_ v = 1 ∧ s.raised = false ∧ c.hi < v ∧ next c s at_ v = ⟨at_, 0, 0, true, at_, at_, s.raises + 1, s.clears, s.repeats⟩) ∨
    (kind c s at_ v = 2 ∧ s.raised = true ∧ v < c.lo ∧ next c s at_ v = ⟨at_, 0, 0, false, 0, at_, s.raises, s.clears + 1, s.repeats⟩) ∨
    (kind c s at_ v = 3 ∧ s.raised = true ∧ c.hi < v ∧ c.sil ≤ at_ - s.noti ∧ next c s at_ v = ⟨at_, HH c s v, LL c s v, s.raised, s.since, at_, s.raises, s.clears, s.repeats + 1⟩) ∨
    (kind c s at_ v = 0 ∧ ¬ (s.raised = true ∧ c.hi < v ∧ c.sil ≤ at_ - s.noti) ∧ ¬ (s.raised = false ∧ c.hold ≤ HH c s v) ∧ ¬ (s.raised = true ∧ c.clr ≤ LL c s v) ∧ next c s at_ v = ⟨at_, HH c s v, LL c s v, s.raised, s.since, s.noti, s.raises, s.clears, s.repeats⟩) := by
  by_cases h1 : s.raised = false ∧ c.hold ≤ HH c s v
  · have e : kind c s at_ v = 1 := by unfold kind; rw [if_pos h1]
    refine .inl ⟨e, h1.1, ?_, by unfold next; rw [if_pos e]⟩
    apply Classical.byContradiction
    intro hn
    have : HH c s v = 0 := by unfold HH ext; rw [if_neg (by simpa using hn)]
    have := hc.hold1
    omega
  · by_cases h2 : s.raised = true ∧ c.clr ≤ LL c s v
    · have e : kind c s at_ v = 2 := by unfold kind; rw [if_neg h1, if_pos h2]
      refine .inr (.inl ⟨e, h2.1, ?_, by unfold next; rw [if_neg (by omega), if_pos e]⟩)
      apply Classical.byContradiction
      intro hn
      have : LL c s v = 0 := by unfold LL ext; rw [if_neg (by simpa using hn)]
      have := hc.clr1
      omega
    · by_cases h3 : s.raised = true ∧ c.hi < v ∧ c.sil ≤ at_ - s.noti
      · have e : kind c s at_ v = 3 := by unfold kind; rw [if_neg h1, if_neg h2, if_pos h3]
        exact .inr (.inr (.inl ⟨e, h3.1, h3.2.1, h3.2.2, by unfold next; rw [if_neg (by omega), if_neg (by omega), if_pos e]⟩))
      · have e : kind c s at_ v = 0 := by unfold kind; rw [if_neg h1, if_neg h2, if_neg h3]
        exact .inr (.inr (.inr ⟨e, h3, h1, h2, by unfold next; rw [if_neg (by omega), if_neg (by omega), if_neg (by omega)]⟩))
def SampAt (w : World) (a : Option Addr) (n : Nat) (A V : Nat → Int) : Prop :=
  n ≤ 9223372036854775807 ∧ (0 < n → ∃ b off, a = some ⟨b, off, none⟩ ∧ b < w.heap.size ∧ ∀ i, i < n → w.cell? ⟨b, off + i * 2, none⟩ = some (.int .i64 (A i)) ∧ w.cell? ⟨b, off + i * 2 + 1, none⟩ = some (.int .i64 (V i)))
theorem open_samp {H : Type} {enc : TypeId × Value → H} {w : World} {base : Nat} {spare : Nat → Bool} {held : Bool} {r : Reach} {b0 : Nat} {v : Value} {d : DataW H} {p : List MemPlace}
    (hv : Value.okWide Try.prog w r b0 30 v) (h : DataW.Trod enc Try.prog w base spare held 30 v d p) :
    ∃ (a : Option Addr) (n cap : Nat) (A V : Nat → Int), v = .slice a n cap ∧ SampAt w a n A V := by
  obtain ⟨a0, n0, c0, rfl⟩ := okWide_slice Try.underlying30 hv
  obtain ⟨fuel, hf⟩ := h
  obtain ⟨a, n, cap, e, hn, hc⟩ := slice_ints Try.underlying30 Try.underlying36 (by kernel_rfl) (by kernel_rfl) (by decide) (by
    intro j f hj
    match j, hj with
    | 0, hj => cases hj; exact Try.underlying3
    | 1, hj => cases hj; exact Try.underlying3) hf
  refine ⟨a, n, cap, fun i => intAt w a (i * 2), fun i => intAt w a (i * 2 + 1), e, by omega, fun h0 => ?_⟩
  obtain ⟨b, off, ha, hb, hf⟩ := hc h0
  exact ⟨b, off, ha, hb, fun i hi => ⟨(hf i hi 0 (by decide)).1, (hf i hi 1 (by decide)).1⟩⟩
theorem open_conf {H : Type} {enc : TypeId × Value → H} {w : World} {base : Nat} {spare : Nat → Bool} {held : Bool} {r : Reach} {b0 : Nat} {v : Value} {d : DataW H} {p : List MemPlace}
    (hv : Value.okWide Try.prog w r b0 23 v) (h : DataW.Trod enc Try.prog w base spare held 23 v d p) :
    ∃ (hi lo hold clr sil : Int), v = .agg #[.int .i64 hi, .int .i64 lo, .int .i64 hold, .int .i64 clr, .int .i64 sil] := by
  obtain ⟨l, e, hl, hc⟩ := agg_cells Try.underlying23 (by kernel_rfl) (by kernel_rfl) (by
    intro j f hj
    match j, hj with
    | 0, hj | 1, hj | 2, hj | 3, hj | 4, hj => cases hj; exact Try.underlying3) hv h
  match l, hl with
  | [x0, x1, x2, x3, x4], _ =>
    obtain ⟨n0, e0, _⟩ := hc 0 (by decide)
    obtain ⟨n1, e1, _⟩ := hc 1 (by decide)
    obtain ⟨n2, e2, _⟩ := hc 2 (by decide)
    obtain ⟨n3, e3, _⟩ := hc 3 (by decide)
    obtain ⟨n4, e4, _⟩ := hc 4 (by decide)
    simp at e0 e1 e2 e3 e4
    subst e0 e1 e2 e3 e4
    exact ⟨n0, n1, n2, n3, n4, e⟩
theorem box_below {w : World} {o : Obj} {W : World} (h : Below (w.heap.size + 1) (w.alloc o) W) : Below w.heap.size w W := ((Below.refl _ _).alloc (Nat.le_refl _) _).trans (h.mono (by omega))
theorem conf_cells {w : World} {x0 x1 x2 x3 x4 : Value} {T : TypeId} {W : World} (h : Below (w.heap.size + 1) (w.alloc (.cells #[x0, x1, x2, x3, x4] T)) W) :
    W.cell? ⟨w.heap.size, 0, none⟩ = some x0 ∧ W.cell? ⟨w.heap.size, 1, none⟩ = some x1 ∧ W.cell? ⟨w.heap.size, 2, none⟩ = some x2 ∧ W.cell? ⟨w.heap.size, 3, none⟩ = some x3 ∧ W.cell? ⟨w.heap.size, 4, none⟩ = some x4 ∧ Below (w.heap.size + 1) (w.alloc (.cells #[x0, x1, x2, x3, x4] T)) W :=
  ⟨(h.cell (p := ⟨w.heap.size, 0, none⟩) (by simp)).trans (by simp [go_sem]), (h.cell (p := ⟨w.heap.size, 1, none⟩) (by simp)).trans (by simp [go_sem]), (h.cell (p := ⟨w.heap.size, 2, none⟩) (by simp)).trans (by simp [go_sem]),
   (h.cell (p := ⟨w.heap.size, 3, none⟩) (by simp)).trans (by simp [go_sem]), (h.cell (p := ⟨w.heap.size, 4, none⟩) (by simp)).trans (by simp [go_sem]), h⟩
/-- what the law's memory is at the loop: base world W0, alarm g -/
structure Mem (w W0 : World) (g : Nat) (a : Option Addr) (n : Nat) (A V : Nat → Int) (hi lo hold clr sil : Int) : Prop where
  gl : g < W0.heap.size
  gw : w.heap.size < g
  samp : 0 < n → ∃ b off, a = some ⟨b, off, none⟩ ∧ b < w.heap.size ∧ ∀ i, i < n → W0.cell? ⟨b, off + i * 2, none⟩ = some (.int .i64 (A i)) ∧ W0.cell? ⟨b, off + i * 2 + 1, none⟩ = some (.int .i64 (V i))
  x0 : W0.cell? ⟨w.heap.size, 0, none⟩ = some (.int .i64 hi)
  x1 : W0.cell? ⟨w.heap.size, 1, none⟩ = some (.int .i64 lo)
  x2 : W0.cell? ⟨w.heap.size, 2, none⟩ = some (.int .i64 hold)
  x3 : W0.cell? ⟨w.heap.size, 3, none⟩ = some (.int .i64 clr)
  x4 : W0.cell? ⟨w.heap.size, 4, none⟩ = some (.int .i64 sil)
  below : Below w.heap.size w W0
theorem mem_of {w W0 : World} {g : Nat} {a : Option Addr} {n : Nat} {A V : Nat → Int} {hi lo hold clr sil : Int} (hs : SampAt w a n A V)
    (hB : Below (w.heap.size + 1) (w.alloc (.cells #[.int .i64 hi, .int .i64 lo, .int .i64 hold, .int .i64 clr, .int .i64 sil] 23)) W0) (hg : w.heap.size + 1 ≤ g) (hgl : g < W0.heap.size) : Mem w W0 g a n A V hi lo hold clr sil := by
  obtain ⟨k0, k1, k2, k3, k4, _⟩ := conf_cells hB
  have h := box_below hB
  refine ⟨hgl, by omega, fun h0 => ?_, k0, k1, k2, k3, k4, h⟩
  obtain ⟨b, off, ha, hb, hc⟩ := hs.2 h0
  exact ⟨b, off, ha, hb, fun i hi => ⟨(h.cell (p := ⟨b, _, none⟩) hb).trans (hc i hi).1, (h.cell (p := ⟨b, _, none⟩) hb).trans (hc i hi).2⟩⟩
theorem Mem.at_ {w W0 : World} {g : Nat} {a : Option Addr} {n : Nat} {A V : Nat → Int} {hi lo hold clr sil : Int} (m : Mem w W0 g a n A V hi lo hold clr sil) {k : Nat} (hk : k < n) :
    ∃ b off, a = some ⟨b, off, none⟩ ∧ b < w.heap.size ∧ ∀ W, W0.grownBy W (some g) → W.cell? ⟨b, off + k * 2, none⟩ = some (.int .i64 (A k)) ∧ W.cell? ⟨b, off + k * 2 + 1, none⟩ = some (.int .i64 (V k)) := by
  obtain ⟨b, off, ha, hb, hc⟩ := m.samp (by omega)
  have := m.gw
  have := m.gl
  exact ⟨b, off, ha, hb, fun W h => ⟨(only_cell h (by omega) (by omega)).trans (hc k hk).1, (only_cell h (by omega) (by omega)).trans (hc k hk).2⟩⟩
theorem Mem.box {w W0 W : World} {g : Nat} {a : Option Addr} {n : Nat} {A V : Nat → Int} {hi lo hold clr sil : Int} (m : Mem w W0 g a n A V hi lo hold clr sil) (h : W0.grownBy W (some g)) :
    W.cell? ⟨w.heap.size, 0, none⟩ = some (.int .i64 hi) ∧ W.cell? ⟨w.heap.size, 1, none⟩ = some (.int .i64 lo) ∧ W.cell? ⟨w.heap.size, 2, none⟩ = some (.int .i64 hold) ∧ W.cell? ⟨w.heap.size, 3, none⟩ = some (.int .i64 clr) ∧ W.cell? ⟨w.heap.size, 4, none⟩ = some (.int .i64 sil) := by
  have := m.gw
  have := m.gl
  exact ⟨(only_cell h (by omega) (by omega)).trans m.x0, (only_cell h (by omega) (by omega)).trans m.x1, (only_cell h (by omega) (by omega)).trans m.x2, (only_cell h (by omega) (by omega)).trans m.x3, (only_cell h (by omega) (by omega)).trans m.x4⟩
theorem Mem.fin {w W0 W : World} {g : Nat} {a : Option Addr} {n : Nat} {A V : Nat → Int} {hi lo hold clr sil : Int} (m : Mem w W0 g a n A V hi lo hold clr sil) (h : W0.grownBy W (some g)) : Below w.heap.size w W :=
  below_only m.below h m.below.size (Nat.le_of_lt m.gw)
theorem only_drew {a w : World} {row : Option Nat} (h : a.grownBy w row) : a.grownBy w.drew row := only_drewN h 1
/-- New, said of the base world -/
theorem new_based {w : World} {hi lo hold clr sil : Int} (hz : chk ⟨hi, lo, hold, clr, sil⟩ = 0) {o : Obj} : ∀ W, Below (w.heap.size + 1) (w.alloc o) W → Calls Try.prog 12 #[.agg #[.int .i64 hi, .int .i64 lo, .int .i64 hold, .int .i64 clr, .int .i64 sil]] W
    fun e w' => ∃ g, e = .returned (.pointer (some ⟨g, 0, none⟩)) ∧ w.heap.size + 1 ≤ g ∧ AlmAt w' g ⟨hi, lo, hold, clr, sil⟩ St.new ∧ Below (w.heap.size + 1) (w.alloc o) w' :=
  fun W h => (New_ok hi lo hold clr sil W hz).mono fun e w' ⟨g, h1, h2, h3, h4⟩ => by
    have hs : w.heap.size + 1 ≤ W.heap.size := by have := h.size; simpa using this
    exact ⟨g, h1, by omega, h3, h.trans (h4.mono hs)⟩
end Go.Proofs.Ytgkcegmbjiodgaa.AlmW
