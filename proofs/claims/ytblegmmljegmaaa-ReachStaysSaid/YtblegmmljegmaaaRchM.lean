/- Plain law of ReachStays; registers in boxes. -/
import Derived.Test.YtblegmmljegmaaaRchK
import Derived.Test.YtblegmmljegmaaaRchJ
namespace Go.Proofs.Ytblegmmljegmaaa.Rch
open Go.RowKit Aid Opn Go.ChangeShapes Go.WideShapes
theorem shift_ok {r : Reg} (k : Ok r) (h : Bool) : Ok (shift r h) ∧ (shift r h).poll = r.poll ∧ (shift r h).mn = r.mn ∧ (shift r h).mx = r.mx := by
  have hz := ok_chk k
  obtain ⟨b1, b2, n1, n2, x1, x2, p1, p2, c1, c2⟩ := k
  unfold shift
  rw [if_pos hz]
  refine ⟨?_, rfl, rfl, rfl⟩
  constructor <;> dsimp only <;> (try split) <;> omega
theorem adapt_ok {r : Reg} (k : Ok r) (o j : Int) : Ok (adapt r o j) ∧ (adapt r o j).mn = r.mn ∧ (adapt r o j).mx = r.mx ∧ (adapt r o j).poll - r.poll ≤ 1 ∧ r.poll - (adapt r o j).poll ≤ 1 := by
  cases hs : smallB o j
  · obtain ⟨h1, h2, h3, h4, h5, _⟩ := adapt_down (o := o) (j := j) k hs
    refine ⟨h1, h4, h5, by omega, ?_⟩
    obtain ⟨b1, b2, n1, n2, x1, x2, p1, p2, c1, c2⟩ := k
    unfold adapt
    rw [if_pos (ok_chk ⟨b1, b2, n1, n2, x1, x2, p1, p2, c1, c2⟩), if_neg (by rw [hs]; simp)]
    split <;> dsimp only <;> omega
  · obtain ⟨h1, h2, h3, h4, h5, _⟩ := adapt_up (o := o) (j := j) k hs
    refine ⟨h1, h4, h5, ?_, by omega⟩
    obtain ⟨b1, b2, n1, n2, x1, x2, p1, p2, c1, c2⟩ := k
    unfold adapt
    rw [if_pos (ok_chk ⟨b1, b2, n1, n2, x1, x2, p1, p2, c1, c2⟩), if_pos hs]
    split <;> dsimp only <;> omega
theorem wait_two {r s : Reg} (k : Ok r) (l : Ok s) (h : s.poll = r.poll + 1) : waitV s = 2 * waitV r := by
  unfold waitV
  rw [if_pos (ok_chk k), if_pos (ok_chk l), h]
  have := k.n1
  have := k.p1
  rw [show (r.poll + 1).toNat = r.poll.toNat + 1 by omega, Int.pow_succ]
  omega
theorem wait_bd {r : Reg} (k : Ok r) : 0 ≤ waitV r ∧ waitV r ≤ 131072000000000 := by
  unfold waitV
  rw [if_pos (ok_chk k)]
  have := k.x2
  have := k.p2
  have := pow_bd (p := r.poll.toNat) (by omega)
  omega
structure RegAt (W : World) (b : Nat) (r : Reg) : Prop where
  r0 : W.cell? ⟨b, 0, none⟩ = some (.int .i64 r.bits)
  r1 : W.cell? ⟨b, 1, none⟩ = some (.int .i64 r.poll)
  r2 : W.cell? ⟨b, 2, none⟩ = some (.int .i64 r.mn)
  r3 : W.cell? ⟨b, 3, none⟩ = some (.int .i64 r.mx)
  r4 : W.cell? ⟨b, 4, none⟩ = some (.int .i64 r.cnt)
  f : ∀ o, W.frozen? ⟨b, o, none⟩ = false
  lt : b < W.heap.size
theorem RegAt.under {W W' : World} {B b : Nat} {r : Reg} (t : RegAt W b r) (h : Below B W W') (hb : b < B) : RegAt W' b r := by
  have l := t.lt
  have c : ∀ j, W'.cell? ⟨b, j, none⟩ = W.cell? ⟨b, j, none⟩ := fun j => h.cell (p := ⟨b, j, none⟩) hb
  have f' : ∀ j, W'.frozen? ⟨b, j, none⟩ = W.frozen? ⟨b, j, none⟩ := fun j => h.frozen (p := ⟨b, j, none⟩) hb
  have := h.size
  exact ⟨(c 0).trans t.r0, (c 1).trans t.r1, (c 2).trans t.r2, (c 3).trans t.r3, (c 4).trans t.r4, fun o => (f' o).trans (t.f o), by omega⟩
theorem RegAt.step {W W' : World} {b : Nat} {r : Reg} (t : RegAt W b r) (h : Below W.heap.size W W') : RegAt W' b r := t.under h t.lt
theorem RegAt.alloc {W : World} {b : Nat} {r : Reg} (t : RegAt W b r) (o : Obj) : RegAt (W.alloc o) b r := t.step ((Below.refl _ _).alloc (Nat.le_refl _) _)
theorem RegAt.new (W : World) (r : Reg) : RegAt (W.alloc (.cells #[.int .i64 r.bits, .int .i64 r.poll, .int .i64 r.mn, .int .i64 r.mx, .int .i64 r.cnt] 23)) W.heap.size r := by
  constructor <;> simp [go_sem]
def put5 (W : World) (b : Nat) (r : Reg) : World := ((((W.setCell ⟨b, 0, none⟩ (.int .i64 r.bits)).setCell ⟨b, 1, none⟩ (.int .i64 r.poll)).setCell ⟨b, 2, none⟩ (.int .i64 r.mn)).setCell ⟨b, 3, none⟩ (.int .i64 r.mx)).setCell ⟨b, 4, none⟩ (.int .i64 r.cnt)
theorem RegAt.store {W : World} {b : Nat} {r : Reg} (t : RegAt W b r) (s : Reg) : RegAt (put5 W b s) b s := by
  obtain ⟨r0, r1, r2, r3, r4, f, lt⟩ := t
  unfold put5
  constructor <;> simp [go_sem, *]
theorem RegAt.other {W : World} {b c : Nat} {r : Reg} (t : RegAt W b r) (s : Reg) (h : b ≠ c) : RegAt (put5 W c s) b r := by
  obtain ⟨r0, r1, r2, r3, r4, f, lt⟩ := t
  have h' : c ≠ b := fun e => h e.symm
  unfold put5
  constructor <;> simp [go_sem, *]
theorem put5_size (W : World) (b : Nat) (r : Reg) : (put5 W b r).heap.size = W.heap.size := by simp [put5, go_sem]
theorem put5_below {B : Nat} {w W : World} (h : Below B w W) {b : Nat} (hb : B ≤ b) (r : Reg) : Below B w (put5 W b r) :=
  ((((h.setCell (p := ⟨b, 0, none⟩) hb _).setCell (p := ⟨b, 1, none⟩) hb _).setCell (p := ⟨b, 2, none⟩) hb _).setCell (p := ⟨b, 3, none⟩) hb _).setCell (p := ⟨b, 4, none⟩) hb _
theorem put5_cell {W : World} {b c o : Nat} {r : Reg} (h : c ≠ b) : (put5 W b r).cell? ⟨c, o, none⟩ = W.cell? ⟨c, o, none⟩ := by
  have h' : b ≠ c := fun e => h e.symm
  simp [put5, go_sem, *]
def DeedAt (w : World) (a : Option Addr) (n : Nat) (K O J : Nat → Int) : Prop :=
  n ≤ 9223372036854775807 ∧ (0 < n → ∃ b off, a = some ⟨b, off, none⟩ ∧ b < w.heap.size ∧ ∀ i, i < n → w.cell? ⟨b, off + i * 3, none⟩ = some (.int .i64 (K i)) ∧ w.cell? ⟨b, off + (i * 3 + 1), none⟩ = some (.int .i64 (O i)) ∧ w.cell? ⟨b, off + (i * 3 + 2), none⟩ = some (.int .i64 (J i)) ∧
    -9223372036854775808 ≤ O i ∧ O i ≤ 9223372036854775807 ∧ -9223372036854775808 ≤ J i ∧ J i ≤ 9223372036854775807)
theorem open_deeds {H : Type} {enc : TypeId × Value → H} {w : World} {base : Nat} {spare : Nat → Bool} {held : Bool} {r : Reach} {b0 : Nat} {v : Value} {d : DataW H} {p : List MemPlace}
    (hv : Value.okWide Try.prog w r b0 36 v) (h : DataW.Trod enc Try.prog w base spare held 36 v d p) :
    ∃ (a : Option Addr) (n cap : Nat) (K O J : Nat → Int), v = .slice a n cap ∧ n ≤ cap ∧ cap ≤ 9223372036854775807 ∧ (a = none → cap = 0) ∧ DeedAt w a n K O J := by
  obtain ⟨a0, n0, c0, rfl⟩ := okWide_slice Try.underlying36 hv
  obtain ⟨fuel, hf⟩ := h
  obtain ⟨a, n, cap, e, ⟨hn1, hn2⟩, hnone, hc⟩ := slice_ints2 Try.underlying36 Try.underlying38 (by kernel_rfl) (by kernel_rfl) (by decide) (by
    intro j f hj
    match j, hj with
    | 0, hj => cases hj; exact Try.underlying3
    | 1, hj => cases hj; exact Try.underlying3
    | 2, hj => cases hj; exact Try.underlying3) hf
  refine ⟨a, n, cap, fun i => intAt w a (i * 3), fun i => intAt w a (i * 3 + 1), fun i => intAt w a (i * 3 + 2), e, hn1, hn2, hnone, by omega, fun h0 => ?_⟩
  obtain ⟨b, off, ha, hb, hf⟩ := hc h0
  exact ⟨b, off, ha, hb, fun i hi => ⟨(hf i hi 0 (by decide)).1, (hf i hi 1 (by decide)).1, (hf i hi 2 (by decide)).1, (hf i hi 1 (by decide)).2.1, (hf i hi 1 (by decide)).2.2, (hf i hi 2 (by decide)).2.1, (hf i hi 2 (by decide)).2.2⟩⟩
theorem open_u16 {H : Type} {enc : TypeId × Value → H} {w : World} {base : Nat} {spare : Nat → Bool} {held : Bool} {r : Reach} {b0 : Nat} {v : Value} {d : DataW H} {p : List MemPlace}
    (hv : Value.okWide Try.prog w r b0 40 v) (h : DataW.Trod enc Try.prog w base spare held 40 v d p) :
    ∃ n : Nat, v = .int .u16 (n : Int) ∧ n ≤ 65535 := by
  obtain ⟨n, e, _, _, hw⟩ := Go.ChangeShapes.open_int Try.underlying40 hv h
  have : 0 ≤ n ∧ n ≤ 65535 := by simpa [Lit.wf, IntKind.min, IntKind.max, IntKind.signed, IntKind.bits] using hw
  exact ⟨n.toNat, by rw [e, show ((n.toNat : Nat) : Int) = n by omega], by omega⟩
end Go.Proofs.Ytblegmmljegmaaa.Rch
