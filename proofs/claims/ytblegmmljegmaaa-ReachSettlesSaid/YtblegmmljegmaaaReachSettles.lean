/- The walk of the law ReachSettles. -/
import Derived.Test.YtblegmmljegmaaaRchM
import Derived.Deep.CutRange
namespace Go.Proofs.Ytblegmmljegmaaa.Rch
open Go.RowKit Aid
structure Four (w W : World) (N X Y Z : Nat) (r u d o : Reg) : Prop where
  rn : RegAt W N r
  rx : RegAt W X u
  ry : RegAt W Y d
  rz : RegAt W Z o
  nx : N < X
  ny : N < Y
  nz : N < Z
  xy : X ≠ Y
  xz : X ≠ Z
  yz : Y ≠ Z
  bel : Below N w W
theorem Four.step {w W W' : World} {N X Y Z : Nat} {r u d o : Reg} (t : Four w W N X Y Z r u d o) (h : Below W.heap.size W W') : Four w W' N X Y Z r u d o :=
  ⟨t.rn.step h, t.rx.step h, t.ry.step h, t.rz.step h, t.nx, t.ny, t.nz, t.xy, t.xz, t.yz, t.bel.trans (h.mono (Nat.le_of_lt t.rn.lt))⟩
theorem Four.setX {w W : World} {N X Y Z : Nat} {r u d o : Reg} (t : Four w W N X Y Z r u d o) (s : Reg) : Four w (put5 W X s) N X Y Z r s d o :=
  ⟨t.rn.other s (Nat.ne_of_lt t.nx), t.rx.store s, t.ry.other s t.xy.symm, t.rz.other s t.xz.symm, t.nx, t.ny, t.nz, t.xy, t.xz, t.yz, put5_below t.bel (Nat.le_of_lt t.nx) s⟩
theorem Four.setY {w W : World} {N X Y Z : Nat} {r u d o : Reg} (t : Four w W N X Y Z r u d o) (s : Reg) : Four w (put5 W Y s) N X Y Z r u s o :=
  ⟨t.rn.other s (Nat.ne_of_lt t.ny), t.rx.other s t.xy, t.ry.store s, t.rz.other s t.yz.symm, t.nx, t.ny, t.nz, t.xy, t.xz, t.yz, put5_below t.bel (Nat.le_of_lt t.ny) s⟩
theorem Four.setZ {w W : World} {N X Y Z : Nat} {r u d o : Reg} (t : Four w W N X Y Z r u d o) (s : Reg) : Four w (put5 W Z s) N X Y Z r u d s :=
  ⟨t.rn.other s (Nat.ne_of_lt t.nz), t.rx.other s t.xz, t.ry.other s t.yz, t.rz.store s, t.nx, t.ny, t.nz, t.xy, t.xz, t.yz, put5_below t.bel (Nat.le_of_lt t.nz) s⟩
theorem four_start {w w1 : World} {r : Reg} (bb : Below w.heap.size w w1) (t : RegAt w1 w.heap.size r) {X Y Z : Nat} (hx : X = w1.heap.size ∨ X = w1.heap.size + 1 ∨ X = w1.heap.size + 1 + 1) (hy : Y = w1.heap.size ∨ Y = w1.heap.size + 1 ∨ Y = w1.heap.size + 1 + 1)
    (hz : Z = w1.heap.size ∨ Z = w1.heap.size + 1 ∨ Z = w1.heap.size + 1 + 1) (xy : X ≠ Y) (xz : X ≠ Z) (yz : Y ≠ Z) :
    Four w (((w1.alloc (.cells #[.int .i64 r.bits, .int .i64 r.poll, .int .i64 r.mn, .int .i64 r.mx, .int .i64 r.cnt] 23)).alloc (.cells #[.int .i64 r.bits, .int .i64 r.poll, .int .i64 r.mn, .int .i64 r.mx, .int .i64 r.cnt] 23)).alloc (.cells #[.int .i64 r.bits, .int .i64 r.poll, .int .i64 r.mn, .int .i64 r.mx, .int .i64 r.cnt] 23)).drew w.heap.size X Y Z r r r r := by
  have l := t.lt
  have b1 : Below w1.heap.size w1 (((w1.alloc (.cells #[.int .i64 r.bits, .int .i64 r.poll, .int .i64 r.mn, .int .i64 r.mx, .int .i64 r.cnt] 23)).alloc (.cells #[.int .i64 r.bits, .int .i64 r.poll, .int .i64 r.mn, .int .i64 r.mx, .int .i64 r.cnt] 23)).alloc (.cells #[.int .i64 r.bits, .int .i64 r.poll, .int .i64 r.mn, .int .i64 r.mx, .int .i64 r.cnt] 23)).drew :=
    ((((Below.refl _ _).alloc (Nat.le_refl _) _).alloc (by simp) _).alloc (by simp; omega) _).drew
  have a0 : RegAt (((w1.alloc (.cells #[.int .i64 r.bits, .int .i64 r.poll, .int .i64 r.mn, .int .i64 r.mx, .int .i64 r.cnt] 23)).alloc (.cells #[.int .i64 r.bits, .int .i64 r.poll, .int .i64 r.mn, .int .i64 r.mx, .int .i64 r.cnt] 23)).alloc (.cells #[.int .i64 r.bits, .int .i64 r.poll, .int .i64 r.mn, .int .i64 r.mx, .int .i64 r.cnt] 23)).drew w1.heap.size r := by constructor <;> simp [go_sem]
  have a1 : RegAt (((w1.alloc (.cells #[.int .i64 r.bits, .int .i64 r.poll, .int .i64 r.mn, .int .i64 r.mx, .int .i64 r.cnt] 23)).alloc (.cells #[.int .i64 r.bits, .int .i64 r.poll, .int .i64 r.mn, .int .i64 r.mx, .int .i64 r.cnt] 23)).alloc (.cells #[.int .i64 r.bits, .int .i64 r.poll, .int .i64 r.mn, .int .i64 r.mx, .int .i64 r.cnt] 23)).drew (w1.heap.size + 1) r := by constructor <;> simp [go_sem]
  have a2 : RegAt (((w1.alloc (.cells #[.int .i64 r.bits, .int .i64 r.poll, .int .i64 r.mn, .int .i64 r.mx, .int .i64 r.cnt] 23)).alloc (.cells #[.int .i64 r.bits, .int .i64 r.poll, .int .i64 r.mn, .int .i64 r.mx, .int .i64 r.cnt] 23)).alloc (.cells #[.int .i64 r.bits, .int .i64 r.poll, .int .i64 r.mn, .int .i64 r.mx, .int .i64 r.cnt] 23)).drew (w1.heap.size + 1 + 1) r := by constructor <;> simp [go_sem]
  have rn := t.step b1
  refine ⟨rn, ?_, ?_, ?_, by omega, by omega, by omega, xy, xz, yz, bb.trans (b1.mono (by omega))⟩
  · rcases hx with rfl | rfl | rfl <;> assumption
  · rcases hy with rfl | rfl | rfl <;> assumption
  · rcases hz with rfl | rfl | rfl <;> assumption
/-- what is left to reach -/
def UpP (u : Reg) (k : Nat) : Prop := u.poll = u.mx ∨ (u.mx - u.poll - 1) * 11 + (33 - u.cnt) / 3 ≤ 200 - (k : Int)
def DnP (d : Reg) (k : Nat) : Prop := d.poll = d.mn ∨ (d.poll - d.mn - 1) * 6 + (36 + d.cnt) / 6 ≤ 200 - (k : Int)
theorem up_start {r : Reg} (k : Ok r) : UpP r 0 := by
  obtain ⟨b1, b2, n1, n2, x1, x2, p1, p2, c1, c2⟩ := k
  unfold UpP; omega
theorem dn_start {r : Reg} (k : Ok r) : DnP r 0 := by
  obtain ⟨b1, b2, n1, n2, x1, x2, p1, p2, c1, c2⟩ := k
  unfold DnP; omega
theorem up_end {r : Reg} (k : Ok r) (h : UpP r 200) : r.poll = r.mx := by
  obtain ⟨b1, b2, n1, n2, x1, x2, p1, p2, c1, c2⟩ := k
  unfold UpP at h; omega
theorem dn_end {r : Reg} (k : Ok r) (h : DnP r 200) : r.poll = r.mn := by
  obtain ⟨b1, b2, n1, n2, x1, x2, p1, p2, c1, c2⟩ := k
  unfold DnP at h; omega
structure UpS (u s : Reg) : Prop where
  ok : Ok s
  le : u.poll ≤ s.poll
  bits : s.bits = u.bits
  mn : s.mn = u.mn
  mx : s.mx = u.mx
  pot : ∀ k, UpP u k → UpP s (k + 1)
structure DnS (u s : Reg) : Prop where
  ok : Ok s
  le : s.poll ≤ u.poll
  bits : s.bits = u.bits
  mn : s.mn = u.mn
  mx : s.mx = u.mx
  pot : ∀ k, DnP u k → DnP s (k + 1)
theorem up_s {u : Reg} (k : Ok u) (n : Nat) : UpS u (adapt u (-4 * (n : Int) - 3) ((n : Int) + 1)) := by
  obtain ⟨h1, h2, h3, h4, h5, h6⟩ := adapt_up k (small_up (j := (n : Int)) (by omega))
  refine ⟨h1, h2, h3, h4, h5, fun k h => ?_⟩
  have := h6 (200 - (k : Int)) h
  unfold UpP
  rw [h5]
  omega
theorem dn_s {u : Reg} (k : Ok u) (n : Nat) : DnS u (adapt u (4 * (n : Int)) (n : Int)) := by
  obtain ⟨h1, h2, h3, h4, h5, h6⟩ := adapt_down k (small_down (j := (n : Int)) (by omega))
  refine ⟨h1, h2, h3, h4, h5, fun k h => ?_⟩
  have := h6 (200 - (k : Int)) h
  unfold DnP
  rw [h4]
  omega
theorem lt_up {W W' : World} (k : Below W.heap.size W W') : ∀ b, b < W.heap.size → b < W'.heap.size := fun _ h => Nat.lt_of_lt_of_le h k.size
theorem RegAt.drew {W : World} {b : Nat} {r : Reg} (t : RegAt W b r) : RegAt W.drew b r := t.step (Below.refl _ _).drew
theorem RegAt.fresh {W : World} {b : Nat} (h : b = W.heap.size) : RegAt (W.alloc (.cells #[.int .i64 0, .int .i64 0, .int .i64 0, .int .i64 0, .int .i64 0] 23)) b ⟨0, 0, 0, 0, 0⟩ := by
  subst h; exact RegAt.new W ⟨0, 0, 0, 0, 0⟩
theorem RegAt.fresh1 {W : World} {b : Nat} {o : Obj} (h : b = W.heap.size + 1) : RegAt ((W.alloc o).alloc (.cells #[.int .i64 0, .int .i64 0, .int .i64 0, .int .i64 0, .int .i64 0] 23)) b ⟨0, 0, 0, 0, 0⟩ := RegAt.fresh (by subst h; simp)
theorem up_trans {w1 W W' : World} (h : Below w1.heap.size w1 W) (k : Below W.heap.size W W') : Below w1.heap.size w1 W' := h.trans (k.mono h.size)
theorem up_alloc {w1 W : World} (h : Below w1.heap.size w1 W) (o : Obj) : Below w1.heap.size w1 (W.alloc o) := h.alloc h.size o
theorem up_store {w1 W : World} (h : Below w1.heap.size w1 W) {b : Nat} (hb : w1.heap.size ≤ b) (v0 v1 v2 v3 v4 : Value) : Below w1.heap.size w1 (((((W.setCell ⟨b, 0, none⟩ v0).setCell ⟨b, 1, none⟩ v1).setCell ⟨b, 2, none⟩ v2).setCell ⟨b, 3, none⟩ v3).setCell ⟨b, 4, none⟩ v4) :=
  ((((h.setCell (p := ⟨b, 0, none⟩) hb _).setCell (p := ⟨b, 1, none⟩) hb _).setCell (p := ⟨b, 2, none⟩) hb _).setCell (p := ⟨b, 3, none⟩) hb _).setCell (p := ⟨b, 4, none⟩) hb _
set_option maxRecDepth 100000 in
set_option maxHeartbeats 6400000 in
theorem ReachSettles_good (r : Reg) (n : Nat) (w : World) (hn : n ≤ 65535) (ok : Ok r) :
    Calls Try.prog 8 #[.agg #[.int .i64 r.bits, .int .i64 r.poll, .int .i64 r.mn, .int .i64 r.mx, .int .i64 r.cnt], .int .u16 n] w fun e w' => e = .returned (.bool true) ∧ Below w.heap.size w w' := by
  have CC := hide fun W => Check_any r.bits r.poll r.mn r.mx r.cnt W
  rw [show chk ⟨r.bits, r.poll, r.mn, r.mx, r.cnt⟩ = 0 from ok_chk ok] at CC
  have C5 := hide awake_any
  have OK := hide ok
  have hb0 : Below w.heap.size w (w.alloc (.cells #[.int .i64 r.bits, .int .i64 r.poll, .int .i64 r.mn, .int .i64 r.mx, .int .i64 r.cnt] 23)) := (Below.refl _ _).alloc (Nat.le_refl _) _
  have HB0 := hide hb0
  have hr0 := RegAt.new w r
  have HR0 := hide hr0
  clear ok hb0 hr0
  go_enter Try.func8, Try.ntmps8
  go_wp2_with fail
  refine (CC.out _).mono ?_
  rintro e w1 ⟨rfl, hb⟩
  have BB := hide (HB0.out.trans (hb.mono (by simp)))
  have T := HR0.out.step hb
  have RR := hide T
  obtain ⟨x0, x1, x2, x3, x4, xf, xlt⟩ := id T
  clear hb HB0 HR0 T
  go_upto_region 3 with fail
  go_cut [5, 6, 7] (fun a b c wx => ∃ X Y Z : Nat, a = .pointer (some ⟨X, 0, none⟩) ∧ b = .pointer (some ⟨Y, 0, none⟩) ∧ c = .pointer (some ⟨Z, 0, none⟩) ∧ Four w wx w.heap.size X Y Z r r r r)
  case first =>
    have hb1 := Below.refl w1.heap.size w1
    have KK := hide (fun (W : World) (h : Below w1.heap.size w1 W) => And.intro (RR.out.step h).r0 (And.intro (RR.out.step h).r1 (And.intro (RR.out.step h).r2 (And.intro (RR.out.step h).r3 (And.intro (RR.out.step h).r4 h)))))
    go_region_held3 (fun W => W.cell? ⟨w.heap.size, 0, none⟩ = some (.int .i64 r.bits) ∧ W.cell? ⟨w.heap.size, 1, none⟩ = some (.int .i64 r.poll) ∧ W.cell? ⟨w.heap.size, 2, none⟩ = some (.int .i64 r.mn) ∧ W.cell? ⟨w.heap.size, 3, none⟩ = some (.int .i64 r.mx) ∧ W.cell? ⟨w.heap.size, 4, none⟩ = some (.int .i64 r.cnt) ∧ Below w1.heap.size w1 W)
      (exact KK.out _ (by repeat (first | exact hb1 | exact below_drewN hb1 _ | exact Below.drew hb1 | refine Below.setCell ?_ (by first | exact Nat.le_refl _ | (simp; done) | (simp; omega)) _ | with_reducible refine up_alloc ?_ _ | with_reducible refine Below.drew ?_ | with_reducible refine below_drewN ?_ _))) (first | fail)
    all_goals (go_wp2_with fail; go_meet; exact ⟨_, _, _, rfl, rfl, rfl, four_start BB.out RR.out (by simp) (by simp) (by simp) (by omega) (by omega) (by omega)⟩)
  case rest =>
    obtain ⟨X, Y, Z, rfl, rfl, rfl, T⟩ := hcut
    have T0 := hide T
    clear T x0 x1 x2 x3 x4 xf xlt BB RR
    go_wp2
    go_loopw [20] (fun i wr => ∃ (k : Nat) (u d : Reg), k ≤ 200 ∧ i = .int .i64 k ∧ Ok u ∧ Ok d ∧ u.bits = r.bits ∧ d.bits = r.bits ∧ u.mx = r.mx ∧ d.mn = r.mn ∧ UpP u k ∧ DnP d k ∧ Four w wr w.heap.size X Y Z r u d r) (fun i _ => 200 - (intOf i).toNat)
    case atStart => exact ⟨0, r, r, by omega, rfl, OK.out, OK.out, rfl, rfl, rfl, rfl, up_start OK.out, dn_start OK.out, T0.out⟩
    case round =>
      clear T0
      obtain ⟨k, u, d, hk, rfl, ou, od, e1, e2, e3, e4, pu, pd, T⟩ := hrel
      by_cases hlt : k < 200
      · have U := up_s ou n
        have D := dn_s od n
        have CU := Adapt_any u.bits u.poll u.mn u.mx u.cnt (-4 * (n : Int) - 3) ((n : Int) + 1) (by omega) (by omega) (by omega) (by omega)
        have CD := Adapt_any d.bits d.poll d.mn d.mx d.cnt (4 * (n : Int)) (n : Int) (by omega) (by omega) (by omega) (by omega)
        rw [show (⟨u.bits, u.poll, u.mn, u.mx, u.cnt⟩ : Reg) = u from rfl] at CU
        rw [show (⟨d.bits, d.poll, d.mn, d.mx, d.cnt⟩ : Reg) = d from rfl] at CD
        generalize adapt u (-4 * (n : Int) - 3) ((n : Int) + 1) = s at U CU
        generalize adapt d (4 * (n : Int)) (n : Int) = t at D CD
        simp only [regV] at CU CD
        have q1 : IntKind.i64.wrap (-4 * (n : Int)) = -4 * (n : Int) := IntWalk.i64_in _ (by omega)
        have q2 : IntKind.i64.wrap (-4 * (n : Int) - 3) = -4 * (n : Int) - 3 := IntWalk.i64_in _ (by omega)
        have q3 : IntKind.i64.wrap ((n : Int) + 1) = (n : Int) + 1 := IntWalk.i64_in _ (by omega)
        have q4 : IntKind.i64.wrap (4 * (n : Int)) = 4 * (n : Int) := IntWalk.i64_in _ (by omega)
        have HU := hide U
        have HD := hide D
        have HCU := hide CU
        have HCD := hide CD
        have HT := hide T
        have HE := hide (And.intro e1 (And.intro e2 (And.intro e3 e4)))
        have HP := hide (And.intro pu pd)
        clear U D CU CD T e1 e2 e3 e4 pu pd ou od
        go_upto_region 7 with fail
        go_cut [9, 10] (fun a b wx => ∃ P Q : Nat, a = .pointer (some ⟨P, 0, none⟩) ∧ b = .pointer (some ⟨Q, 0, none⟩) ∧ P ≠ Q ∧ wr.heap.size ≤ P ∧ wr.heap.size ≤ Q ∧ RegAt wx P s ∧ RegAt wx Q t ∧ Four w wx w.heap.size X Y Z r u d r)
        case first =>
          have hb1 := Below.refl wr.heap.size wr
          have KK := hide (fun (W : World) (h : Below wr.heap.size wr W) => And.intro (HT.out.step h).rx.r0 (And.intro (HT.out.step h).rx.r1 (And.intro (HT.out.step h).rx.r2 (And.intro (HT.out.step h).rx.r3 (And.intro (HT.out.step h).rx.r4 (And.intro (HT.out.step h).ry.r0 (And.intro (HT.out.step h).ry.r1 (And.intro (HT.out.step h).ry.r2 (And.intro (HT.out.step h).ry.r3 (And.intro (HT.out.step h).ry.r4 h))))))))))
          obtain ⟨x0, x1, x2, x3, x4, y0, y1, y2, y3, y4, _⟩ := KK.out _ hb1
          have hbb := hb1
          go_region_held3 (fun W => W.cell? ⟨X, 0, none⟩ = some (.int .i64 u.bits) ∧ W.cell? ⟨X, 1, none⟩ = some (.int .i64 u.poll) ∧ W.cell? ⟨X, 2, none⟩ = some (.int .i64 u.mn) ∧ W.cell? ⟨X, 3, none⟩ = some (.int .i64 u.mx) ∧ W.cell? ⟨X, 4, none⟩ = some (.int .i64 u.cnt) ∧ W.cell? ⟨Y, 0, none⟩ = some (.int .i64 d.bits) ∧ W.cell? ⟨Y, 1, none⟩ = some (.int .i64 d.poll) ∧ W.cell? ⟨Y, 2, none⟩ = some (.int .i64 d.mn) ∧ W.cell? ⟨Y, 3, none⟩ = some (.int .i64 d.mx) ∧ W.cell? ⟨Y, 4, none⟩ = some (.int .i64 d.cnt) ∧ Below wr.heap.size wr W)
            (exact KK.out _ (by repeat (first | with_reducible exact hbb | with_reducible exact hb1 | with_reducible refine Below.setCell ?_ (by first | exact Nat.le_refl _ | exact hbb.size | (simp; done) | (have := hbb.size; simp; omega)) _ | with_reducible refine up_alloc ?_ _ | with_reducible refine Below.drew ?_ | with_reducible refine below_drewN ?_ _)))
            (first | (go_at_call 9; with_reducible refine (HCU.out _).mono ?_; rintro e wu ⟨rfl, hbc⟩; have hbb : Below wr.heap.size wr wu := up_trans (by repeat (first | with_reducible exact hbb | with_reducible exact hb1 | with_reducible refine Below.setCell ?_ (by first | exact Nat.le_refl _ | exact hbb.size | (simp; done) | (have := hbb.size; simp; omega)) _ | with_reducible refine up_alloc ?_ _ | with_reducible refine Below.drew ?_ | with_reducible refine below_drewN ?_ _)) hbc; (first | have zA : RegAt wu (wr.heap.size) ⟨0, 0, 0, 0, 0⟩ := RegAt.step (RegAt.fresh rfl) hbc | have zA : RegAt wu (wr.heap.size) ⟨0, 0, 0, 0, 0⟩ := RegAt.step (RegAt.drew (RegAt.fresh rfl)) hbc | have zA : RegAt wu (wr.heap.size) ⟨0, 0, 0, 0, 0⟩ := RegAt.step (RegAt.fresh1 rfl) hbc | have zA : RegAt wu (wr.heap.size) ⟨0, 0, 0, 0, 0⟩ := RegAt.step (RegAt.drew (RegAt.fresh1 rfl)) hbc | have zA : RegAt wu (wr.heap.size) ⟨0, 0, 0, 0, 0⟩ := RegAt.step ((RegAt.fresh rfl).alloc _) hbc | have zA : RegAt wu (wr.heap.size) ⟨0, 0, 0, 0, 0⟩ := RegAt.step (RegAt.drew ((RegAt.fresh rfl).alloc _)) hbc | skip); (first | have zB : RegAt wu (wr.heap.size + 1) ⟨0, 0, 0, 0, 0⟩ := RegAt.step (RegAt.fresh rfl) hbc | have zB : RegAt wu (wr.heap.size + 1) ⟨0, 0, 0, 0, 0⟩ := RegAt.step (RegAt.drew (RegAt.fresh rfl)) hbc | have zB : RegAt wu (wr.heap.size + 1) ⟨0, 0, 0, 0, 0⟩ := RegAt.step (RegAt.fresh1 rfl) hbc | have zB : RegAt wu (wr.heap.size + 1) ⟨0, 0, 0, 0, 0⟩ := RegAt.step (RegAt.drew (RegAt.fresh1 rfl)) hbc | have zB : RegAt wu (wr.heap.size + 1) ⟨0, 0, 0, 0, 0⟩ := RegAt.step ((RegAt.fresh rfl).alloc _) hbc | have zB : RegAt wu (wr.heap.size + 1) ⟨0, 0, 0, 0, 0⟩ := RegAt.step (RegAt.drew ((RegAt.fresh rfl).alloc _)) hbc | skip); have hs0 := hbb.size; clear hbc; (try (obtain ⟨zA0, zA1, zA2, zA3, zA4, zA5, zA6⟩ := id zA)); (try (obtain ⟨zB0, zB1, zB2, zB3, zB4, zB5, zB6⟩ := id zB))) | (go_at_call 9; with_reducible refine (HCD.out _).mono ?_; rintro e wd ⟨rfl, hbc⟩; have hbb : Below wr.heap.size wr wd := up_trans (by repeat (first | with_reducible exact hbb | with_reducible exact hb1 | with_reducible refine Below.setCell ?_ (by first | exact Nat.le_refl _ | exact hbb.size | (simp; done) | (have := hbb.size; simp; omega)) _ | with_reducible refine up_alloc ?_ _ | with_reducible refine Below.drew ?_ | with_reducible refine below_drewN ?_ _)) hbc; (first | have zC : RegAt wd (wr.heap.size) ⟨0, 0, 0, 0, 0⟩ := RegAt.step (RegAt.fresh rfl) hbc | have zC : RegAt wd (wr.heap.size) ⟨0, 0, 0, 0, 0⟩ := RegAt.step (RegAt.drew (RegAt.fresh rfl)) hbc | have zC : RegAt wd (wr.heap.size) ⟨0, 0, 0, 0, 0⟩ := RegAt.step (RegAt.fresh1 rfl) hbc | have zC : RegAt wd (wr.heap.size) ⟨0, 0, 0, 0, 0⟩ := RegAt.step (RegAt.drew (RegAt.fresh1 rfl)) hbc | have zC : RegAt wd (wr.heap.size) ⟨0, 0, 0, 0, 0⟩ := RegAt.step ((RegAt.fresh rfl).alloc _) hbc | have zC : RegAt wd (wr.heap.size) ⟨0, 0, 0, 0, 0⟩ := RegAt.step (RegAt.drew ((RegAt.fresh rfl).alloc _)) hbc | have zC : RegAt wd (wr.heap.size) ⟨0, 0, 0, 0, 0⟩ := RegAt.step zA hbc | have zC : RegAt wd (wr.heap.size) ⟨0, 0, 0, 0, 0⟩ := RegAt.step (RegAt.drew zA) hbc | have zC : RegAt wd (wr.heap.size) ⟨0, 0, 0, 0, 0⟩ := RegAt.step (zA.alloc _) hbc | have zC : RegAt wd (wr.heap.size) ⟨0, 0, 0, 0, 0⟩ := RegAt.step (RegAt.drew (zA.alloc _)) hbc | have zC : RegAt wd (wr.heap.size) ⟨0, 0, 0, 0, 0⟩ := RegAt.step ((zA.alloc _).alloc _) hbc | have zC : RegAt wd (wr.heap.size) ⟨0, 0, 0, 0, 0⟩ := RegAt.step (RegAt.drew ((zA.alloc _).alloc _)) hbc | skip); (first | have zD : RegAt wd (wr.heap.size + 1) ⟨0, 0, 0, 0, 0⟩ := RegAt.step (RegAt.fresh rfl) hbc | have zD : RegAt wd (wr.heap.size + 1) ⟨0, 0, 0, 0, 0⟩ := RegAt.step (RegAt.drew (RegAt.fresh rfl)) hbc | have zD : RegAt wd (wr.heap.size + 1) ⟨0, 0, 0, 0, 0⟩ := RegAt.step (RegAt.fresh1 rfl) hbc | have zD : RegAt wd (wr.heap.size + 1) ⟨0, 0, 0, 0, 0⟩ := RegAt.step (RegAt.drew (RegAt.fresh1 rfl)) hbc | have zD : RegAt wd (wr.heap.size + 1) ⟨0, 0, 0, 0, 0⟩ := RegAt.step ((RegAt.fresh rfl).alloc _) hbc | have zD : RegAt wd (wr.heap.size + 1) ⟨0, 0, 0, 0, 0⟩ := RegAt.step (RegAt.drew ((RegAt.fresh rfl).alloc _)) hbc | have zD : RegAt wd (wr.heap.size + 1) ⟨0, 0, 0, 0, 0⟩ := RegAt.step zB hbc | have zD : RegAt wd (wr.heap.size + 1) ⟨0, 0, 0, 0, 0⟩ := RegAt.step (RegAt.drew zB) hbc | have zD : RegAt wd (wr.heap.size + 1) ⟨0, 0, 0, 0, 0⟩ := RegAt.step (zB.alloc _) hbc | have zD : RegAt wd (wr.heap.size + 1) ⟨0, 0, 0, 0, 0⟩ := RegAt.step (RegAt.drew (zB.alloc _)) hbc | have zD : RegAt wd (wr.heap.size + 1) ⟨0, 0, 0, 0, 0⟩ := RegAt.step ((zB.alloc _).alloc _) hbc | have zD : RegAt wd (wr.heap.size + 1) ⟨0, 0, 0, 0, 0⟩ := RegAt.step (RegAt.drew ((zB.alloc _).alloc _)) hbc | skip); (first | have zE : RegAt wd (wu.heap.size) ⟨0, 0, 0, 0, 0⟩ := RegAt.step (RegAt.fresh rfl) hbc | have zE : RegAt wd (wu.heap.size) ⟨0, 0, 0, 0, 0⟩ := RegAt.step (RegAt.drew (RegAt.fresh rfl)) hbc | have zE : RegAt wd (wu.heap.size) ⟨0, 0, 0, 0, 0⟩ := RegAt.step (RegAt.fresh1 rfl) hbc | have zE : RegAt wd (wu.heap.size) ⟨0, 0, 0, 0, 0⟩ := RegAt.step (RegAt.drew (RegAt.fresh1 rfl)) hbc | have zE : RegAt wd (wu.heap.size) ⟨0, 0, 0, 0, 0⟩ := RegAt.step ((RegAt.fresh rfl).alloc _) hbc | have zE : RegAt wd (wu.heap.size) ⟨0, 0, 0, 0, 0⟩ := RegAt.step (RegAt.drew ((RegAt.fresh rfl).alloc _)) hbc | skip); (first | have zF : RegAt wd (wu.heap.size + 1) ⟨0, 0, 0, 0, 0⟩ := RegAt.step (RegAt.fresh rfl) hbc | have zF : RegAt wd (wu.heap.size + 1) ⟨0, 0, 0, 0, 0⟩ := RegAt.step (RegAt.drew (RegAt.fresh rfl)) hbc | have zF : RegAt wd (wu.heap.size + 1) ⟨0, 0, 0, 0, 0⟩ := RegAt.step (RegAt.fresh1 rfl) hbc | have zF : RegAt wd (wu.heap.size + 1) ⟨0, 0, 0, 0, 0⟩ := RegAt.step (RegAt.drew (RegAt.fresh1 rfl)) hbc | have zF : RegAt wd (wu.heap.size + 1) ⟨0, 0, 0, 0, 0⟩ := RegAt.step ((RegAt.fresh rfl).alloc _) hbc | have zF : RegAt wd (wu.heap.size + 1) ⟨0, 0, 0, 0, 0⟩ := RegAt.step (RegAt.drew ((RegAt.fresh rfl).alloc _)) hbc | skip); have hs0 := hbb.size; clear hbc; (try (obtain ⟨zC0, zC1, zC2, zC3, zC4, zC5, zC6⟩ := id zC)); (try (obtain ⟨zD0, zD1, zD2, zD3, zD4, zD5, zD6⟩ := id zD)); (try (obtain ⟨zE0, zE1, zE2, zE3, zE4, zE5, zE6⟩ := id zE)); (try (obtain ⟨zF0, zF1, zF2, zF3, zF4, zF5, zF6⟩ := id zF))))
          all_goals (go_wp2_with fail; go_meet)
          all_goals (refine ⟨_, _, rfl, rfl, ?_, ?_, ?_, ?_, ?_, HT.out.step ?_⟩)
          all_goals (first | omega | (with_reducible constructor <;> first | (simp [go_sem, *]; done) | (simp [go_sem]; omega)) | (repeat (first | with_reducible exact hbb | with_reducible exact hb1 | with_reducible refine Below.setCell ?_ (by first | exact Nat.le_refl _ | exact hbb.size | (simp; done) | (have := hbb.size; simp; omega)) _ | with_reducible refine up_alloc ?_ _ | with_reducible refine Below.drew ?_ | with_reducible refine below_drewN ?_ _)))
        case rest =>
          obtain ⟨P, Q, rfl, rfl, pq, hp, hq, TP, TQ, T⟩ := hcut
          have lx := HT.out.rx.lt
          have ly := HT.out.ry.lt
          have n1 : X ≠ P := by omega
          have n2 : X ≠ Q := by omega
          have n3 : Y ≠ P := by omega
          have n4 : Y ≠ Q := by omega
          have n5 : P ≠ X := by omega
          have n6 : Q ≠ X := by omega
          have n7 : P ≠ Y := by omega
          have n8 : Q ≠ Y := by omega
          have n9 := T.xy
          have n10 := T.xy.symm
          have le1 := HU.out.le
          have le2 := HD.out.le
          have eb1 : (s.bits != r.bits) = false := by rw [HU.out.bits, HE.out.1]; simp
          have eb2 : (t.bits != r.bits) = false := by rw [HD.out.bits, HE.out.2.1]; simp
          obtain ⟨p0, p1, p2, p3, p4, pf, plt⟩ := TP
          obtain ⟨q0, q1, q2, q3, q4, qf, qlt⟩ := TQ
          obtain ⟨x0, x1, x2, x3, x4, xf, xlt⟩ := T.rx
          obtain ⟨y0, y1, y2, y3, y4, yf, ylt⟩ := T.ry
          obtain ⟨r0, r1, r2, r3, r4, rf, rlt⟩ := T.rn
          have HT2 := hide T
          clear T HT HCU HCD
          go_upto_region 10 with fail
          go_region
          go_wp2_with fail
          go_roundw
          case rel => exact ⟨k + 1, s, t, by omega, by go_num, HU.out.ok, HD.out.ok, HU.out.bits.trans HE.out.1, HD.out.bits.trans HE.out.2.1, HU.out.mx.trans HE.out.2.2.1, HD.out.mn.trans HE.out.2.2.2, HU.out.pot k HP.out.1, HD.out.pot k HP.out.2, ((HT2.out.setX s).setY t).step (Below.refl _ _).drew⟩
          case measure => (simp [intOf]) <;> omega
      · have hk2 : k = 200 := by omega
        subst hk2
        have hx := (up_end ou pu).trans e3
        have hy := (dn_end od pd).trans e4
        have HX := hide hx
        have HY := hide hy
        have T1 := hide T
        clear T pu pd ou od e1 e2 e3 e4 hx hy
        rw [show ((200 : Nat) : Int) = 200 from rfl]
        go_wp2
        go_loopw [63] (fun i wz => ∃ (j : Nat) (q : Reg), j ≤ 7 ∧ i = .int .i64 j ∧ Ok q ∧ q.mx = r.mx ∧ (q.poll = q.mx ∨ r.poll + 2 * (j : Int) ≤ q.poll) ∧ (1 ≤ j → q.cnt = 0) ∧ Four w wz w.heap.size X Y Z r u d q) (fun i _ => 7 - (intOf i).toNat)
        case atStart => exact ⟨0, r, by omega, rfl, OK.out, rfl, Or.inr (by omega), fun h => by omega, T1.out⟩
        case round =>
          clear T1
          obtain ⟨j, q, hj, rfl, oq, f1, f2, f3, T⟩ := hrel
          obtain ⟨z0, z1, z2, z3, z4, zf, zlt⟩ := T.rz
          by_cases hlj : j < 7
          · obtain ⟨g1, g2, g3, g4, g5, g6⟩ := backoff_ok oq
            have CB := Backoff_any q.bits q.poll q.mn q.mx q.cnt
            rw [show (⟨q.bits, q.poll, q.mn, q.mx, q.cnt⟩ : Reg) = q from rfl] at CB
            have o1 := oq.p2
            have hpot : (backoff q).poll = (backoff q).mx ∨ r.poll + 2 * ((j + 1 : Nat) : Int) ≤ (backoff q).poll := by omega
            have hmx : (backoff q).mx = r.mx := g6.trans f1
            generalize backoff q = s at *
            simp only [regV] at CB
            have HCB := hide CB
            have HF := hide (And.intro g1 (And.intro hmx (And.intro hpot g3)))
            have HT := hide T
            clear CB T oq f1 f2 f3 g1 g2 g3 g4 g5 g6 hpot hmx o1
            go_wp2_with fail
            refine (HCB.out _).mono ?_
            rintro e w2 ⟨rfl, hb⟩
            have T := HT.out.step hb
            clear z0 z1 z2 z3 z4 zf zlt hb
            obtain ⟨z0, z1, z2, z3, z4, zf, zlt⟩ := T.rz
            have HT := hide T
            clear T
            go_wp2
            go_roundw
            case rel => exact ⟨j + 1, s, by omega, by go_num, HF.out.1, HF.out.2.1, HF.out.2.2.1, fun _ => HF.out.2.2.2, HT.out.setZ s⟩
            case measure => (simp [intOf]) <;> omega
          · have hj7 : j = 7 := by omega
            subst hj7
            have o1 := oq.p2
            have o2 := oq.x2
            have o3 := OK.out.n1
            have o4 := OK.out.p1
            have hq1 : q.poll = r.mx := by omega
            have hq2 : q.cnt = 0 := f3 (by omega)
            have hx := HX.out
            have hy := HY.out
            obtain ⟨x0, x1, x2, x3, x4, xf, xlt⟩ := T.rx
            obtain ⟨y0, y1, y2, y3, y4, yf, ylt⟩ := T.ry
            obtain ⟨r0, r1, r2, r3, r4, rf, rlt⟩ := T.rn
            rw [hx] at x1
            rw [hy] at y1
            rw [hq1] at z1
            rw [hq2] at z4
            have HT := hide T
            clear T hx hy hq1 hq2 f1 f2 f3 o1 o2 o3 o4 oq
            rw [show ((7 : Nat) : Int) = 7 from rfl]
            go_wp2_with fail
            refine (C5.out _).mono ?_
            rintro e w4 ⟨rfl, hb⟩
            go_wp2
            go_ret
            exact ⟨rfl, HT.out.bel.trans (hb.mono HT.out.bel.size)⟩
set_option maxRecDepth 100000 in
set_option maxHeartbeats 1600000 in
theorem ReachSettles_bad (bits poll mn mx cnt : Int) (n : Nat) (w : World) (hz : chk ⟨bits, poll, mn, mx, cnt⟩ ≠ 0) :
    Calls Try.prog 8 #[.agg #[.int .i64 bits, .int .i64 poll, .int .i64 mn, .int .i64 mx, .int .i64 cnt], .int .u16 n] w fun e w' => e = .returned (.bool true) ∧ Below w.heap.size w w' := by
  have hB : w.heap.size + 1 ≤ (w.alloc (.cells #[.int .i64 bits, .int .i64 poll, .int .i64 mn, .int .i64 mx, .int .i64 cnt] 23)).heap.size := by simp
  have C0 := hide (based hB fun W _ => Check_any bits poll mn mx cnt W)
  have C5 := hide (based hB fun W _ => awake_any W)
  have hz1 : (chk ⟨bits, poll, mn, mx, cnt⟩ != 0) = true := by simpa using hz
  generalize chk ⟨bits, poll, mn, mx, cnt⟩ = k at *
  clear hz hB
  have hb := Below.refl (w.heap.size + 1) (w.alloc (.cells #[.int .i64 bits, .int .i64 poll, .int .i64 mn, .int .i64 mx, .int .i64 cnt] 23))
  go_enter Try.func8, Try.ntmps8
  go_wp2_with fail
  refine (C0.out _ hb).mono ?_
  rintro e w1 ⟨rfl, hb1⟩
  go_wp2_with fail
  refine (C5.out _ hb1).mono ?_
  rintro e w4 ⟨rfl, hb4⟩
  go_wp2
  go_ret
  exact ⟨rfl, box_below hb4⟩
theorem ReachSettles_walk (bits poll mn mx cnt : Int) (n : Nat) (w : World) (hn : n ≤ 65535) :
    Calls Try.prog 8 #[.agg #[.int .i64 bits, .int .i64 poll, .int .i64 mn, .int .i64 mx, .int .i64 cnt], .int .u16 n] w fun e w' => e = .returned (.bool true) ∧ Below w.heap.size w w' := by
  by_cases hz : chk ⟨bits, poll, mn, mx, cnt⟩ = 0
  · exact ReachSettles_good ⟨bits, poll, mn, mx, cnt⟩ n w hn (chk_ok hz)
  · exact ReachSettles_bad bits poll mn mx cnt n w hz
end Go.Proofs.Ytblegmmljegmaaa.Rch
