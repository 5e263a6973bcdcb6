/- The walk of the law ReachHistory. -/
import Derived.Test.YtblegmmljegmaaaRchL
namespace Go.Proofs.Ytblegmmljegmaaa.Rch
open Go.RowKit Aid
structure HistAt (w : World) (N : Nat) (b : Int) (W : World) : Prop where
  s0 : W.cell? ⟨N, 0, none⟩ = some (.int .i64 0)
  s1 : W.cell? ⟨N, 1, none⟩ = some (.int .i64 5)
  s2 : W.cell? ⟨N, 2, none⟩ = some (.int .i64 4)
  s3 : W.cell? ⟨N, 3, none⟩ = some (.int .i64 9)
  s4 : W.cell? ⟨N, 4, none⟩ = some (.int .i64 (-3))
  r0 : W.cell? ⟨N + 1, 0, none⟩ = some (.int .i64 b)
  r1 : W.cell? ⟨N + 1, 1, none⟩ = some (.int .i64 5)
  r2 : W.cell? ⟨N + 1, 2, none⟩ = some (.int .i64 4)
  r3 : W.cell? ⟨N + 1, 3, none⟩ = some (.int .i64 9)
  r4 : W.cell? ⟨N + 1, 4, none⟩ = some (.int .i64 (-3))
  f : ∀ o, W.frozen? ⟨N + 1, o, none⟩ = false
  lt : N + 1 < W.heap.size
  below : Below N w W
theorem HistAt.step {w W W' : World} {N : Nat} {b : Int} (t : HistAt w N b W) (h : Below W.heap.size W W') : HistAt w N b W' := by
  have l := t.lt
  have c : ∀ j, W'.cell? ⟨N, j, none⟩ = W.cell? ⟨N, j, none⟩ := fun j => h.cell (p := ⟨N, j, none⟩) (show N < W.heap.size by omega)
  have c' : ∀ j, W'.cell? ⟨N + 1, j, none⟩ = W.cell? ⟨N + 1, j, none⟩ := fun j => h.cell (p := ⟨N + 1, j, none⟩) (show N + 1 < W.heap.size by omega)
  have f' : ∀ j, W'.frozen? ⟨N + 1, j, none⟩ = W.frozen? ⟨N + 1, j, none⟩ := fun j => h.frozen (p := ⟨N + 1, j, none⟩) (show N + 1 < W.heap.size by omega)
  have := h.size
  exact ⟨(c 0).trans t.s0, (c 1).trans t.s1, (c 2).trans t.s2, (c 3).trans t.s3, (c 4).trans t.s4, (c' 0).trans t.r0, (c' 1).trans t.r1, (c' 2).trans t.r2, (c' 3).trans t.r3, (c' 4).trans t.r4, fun o => (f' o).trans (t.f o), by omega, t.below.trans (h.mono (by omega))⟩
theorem hist_start (w : World) : HistAt w w.heap.size 0 ((w.alloc (.cells #[.int .i64 0, .int .i64 5, .int .i64 4, .int .i64 9, .int .i64 (-3)] 23)).alloc (.cells #[.int .i64 0, .int .i64 5, .int .i64 4, .int .i64 9, .int .i64 (-3)] 23)) := by
  constructor <;> try simp [go_sem]
  exact ((Below.refl _ _).alloc (Nat.le_refl _) _).alloc (by simp) _
theorem HistAt.store {w W : World} {N : Nat} {b : Int} (t : HistAt w N b W) (b' : Int) : HistAt w N b' (((((W.setCell ⟨N + 1, 0, none⟩ (.int .i64 b')).setCell ⟨N + 1, 1, none⟩ (.int .i64 5)).setCell ⟨N + 1, 2, none⟩ (.int .i64 4)).setCell ⟨N + 1, 3, none⟩ (.int .i64 9)).setCell ⟨N + 1, 4, none⟩ (.int .i64 (-3))) := by
  obtain ⟨s0, s1, s2, s3, s4, r0, r1, r2, r3, r4, f, lt, below⟩ := t
  constructor <;> try simp [go_sem, *]
  exact ((((below.setCell (by simp) _).setCell (by simp) _).setCell (by simp) _).setCell (by simp) _).setCell (by simp) _
theorem x_ok {b : Int} (h1 : 0 ≤ b) (h2 : b ≤ 255) : chk ⟨b, 5, 4, 9, -3⟩ = 0 := ok_chk (by constructor <;> dsimp only <;> omega)
theorem x_heard_any (b : Int) (h1 : 0 ≤ b) (h2 : b ≤ 255) (W : World) : Calls Try.prog 16 #[.agg #[.int .i64 b, .int .i64 5, .int .i64 4, .int .i64 9, .int .i64 (-3)]] W fun e w' => e = .returned (.int .i64 (upN b 8)) ∧ Below W.heap.size W w' := by
  have := Heard_any b 5 4 9 (-3) W
  rwa [if_pos (x_ok h1 h2), ← upN_8] at this
theorem x_lost_any (b : Int) (h1 : 0 ≤ b) (h2 : b ≤ 255) (W : World) : Calls Try.prog 18 #[.agg #[.int .i64 b, .int .i64 5, .int .i64 4, .int .i64 9, .int .i64 (-3)]] W fun e w' => e = .returned (.int .i64 (upL b 8)) ∧ Below W.heap.size W w' := by
  have := Lost_any b 5 4 9 (-3) W
  rwa [if_pos (x_ok h1 h2), ← upL_8] at this
theorem x_reach_any (b : Int) (h1 : 0 ≤ b) (h2 : b ≤ 255) (W : World) : Calls Try.prog 14 #[.agg #[.int .i64 b, .int .i64 5, .int .i64 4, .int .i64 9, .int .i64 (-3)]] W fun e w' => e = .returned (.bool (decide (0 < upN b 8))) ∧ Below W.heap.size W w' := by
  have := Reachable_any b 5 4 9 (-3) W
  have e := heard_pos' h1 h2
  unfold reachB at this
  rw [x_ok h1 h2] at this
  have e2 : decide (0 < upN b 8) = (b != 0) := by rw [← e, upN_8]; simp
  rw [e2]
  simpa using this
theorem x_shift_any (b : Int) (h1 : 0 ≤ b) (h2 : b ≤ 255) (h : Bool) (W : World) : Calls Try.prog 22 #[.agg #[.int .i64 b, .int .i64 5, .int .i64 4, .int .i64 9, .int .i64 (-3)], .bool h] W fun e w' => e = .returned (.agg #[.int .i64 (b * 2 % 256 + (if h = true then 1 else 0)), .int .i64 5, .int .i64 4, .int .i64 9, .int .i64 (-3)]) ∧ Below W.heap.size W w' := by
  have := Shift_any b 5 4 9 (-3) h W
  have hz : chk ⟨b, 5, 4, 9, -3⟩ = 0 := ok_chk (by constructor <;> dsimp only <;> omega)
  unfold shift at this
  rw [if_pos hz] at this
  exact this
set_option maxRecDepth 100000 in
set_option maxHeartbeats 6400000 in
theorem ReachHistory_walk (a : Option Addr) (n cap : Nat) (P : Nat → Bool) (w : World) (hnc : n ≤ cap) (hcap : cap ≤ 9223372036854775807) (hnone : a = none → cap = 0) (hp : BoolAt w a n P) :
    Calls Try.prog 5 #[.slice a n cap] w fun e w' => e = .returned (.bool true) ∧ Below w.heap.size w w' := by
  have C0 := hide x_shift_any
  have C5 := hide awake_any
  obtain ⟨m, hm⟩ : ∃ m : Nat, m = min n 300 := ⟨_, rfl⟩
  have hp' : BoolAt w a m P := ⟨by have := hp.1; omega, fun h => by
    obtain ⟨b, off, h1, h2, h3⟩ := hp.2 (by omega)
    exact ⟨b, off, h1, h2, fun i hi => h3 i (by omega)⟩⟩
  have HP := hide hp'
  have HP0 := hide hp
  clear hp hp'
  go_enter Try.func5, Try.ntmps5
  go_upto_region 1 with fail
  go_cut [0] (fun s wx => ∃ A : Option Addr, s = .slice A m cap ∧ BoolAt w A m P ∧ wx = w)
  case first =>
    have hmm := HP.out.1
    cases a with
    | none =>
      obtain rfl := hnone rfl
      obtain rfl : n = 0 := by omega
      obtain rfl : m = 0 := by omega
      clear hm
      go_wp2
      go_meet
      case rel => exact ⟨_, rfl, HP.out, rfl⟩
    | some ad =>
      by_cases hn : n ≤ 300
      · obtain rfl : m = n := by omega
        clear hm
        go_wp2
        go_meet
        case rel => exact ⟨_, rfl, HP.out, rfl⟩
      · obtain rfl : m = 300 := by omega
        clear hm
        go_wp2
        go_meet
        case rel => exact ⟨_, rfl, HP.out, rfl⟩
  case rest =>
    obtain ⟨A, rfl, hA, rfl⟩ := hcut
    have HA := hide hA
    have hm3 : m ≤ 300 := by omega
    clear hA HP HP0 hm
    go_wp2
    have T0 := hide (hist_start wc)
    go_loopw [19] (fun i wr => ∃ k : Nat, k ≤ m ∧ i = .int .i64 k ∧ HistAt wc wc.heap.size (hist P k) wr) (fun i _ => m - (intOf i).toNat)
    case atStart => exact ⟨0, by omega, rfl, T0.out⟩
    case round =>
      obtain ⟨k, hk, rfl, T⟩ := hrel
      by_cases hlt : k < m
      · obtain ⟨b, off, rfl, hbl, hcell⟩ := HA.out.2 (by omega)
        have kc : wr.cell? ⟨b, off + k, none⟩ = some (.bool (P k)) := (T.below.cell (p := ⟨b, off + k, none⟩) hbl).trans (hcell k hlt)
        have HC := hide hcell
        clear hcell
        obtain ⟨h1, h2⟩ := hist_bd P k
        have F := hide (C0.out (hist P k) h1 h2 (P k))
        rw [show hist P k * 2 % 256 + (if P k = true then 1 else 0) = hist P (k + 1) from rfl] at F
        obtain ⟨_, _, _, _, _, r0, r1, r2, r3, r4, _, _, _⟩ := id T
        have HT := hide T
        clear T h1 h2
        go_wp2_with fail
        refine (F.out _).mono ?_
        rintro e w1 ⟨rfl, hb⟩
        have T := HT.out.step hb
        obtain ⟨_, _, _, _, _, r0, r1, r2, r3, r4, fz, _, _⟩ := id T
        have HT := hide T
        clear T hb
        go_wp2
        have T1 := hide (HT.out.store (hist P (k + 1)))
        obtain ⟨g1, g2⟩ := hist_bd P (k + 1)
        have CH := hide (x_heard_any (hist P (k + 1)) g1 g2)
        have CL := hide (x_lost_any (hist P (k + 1)) g1 g2)
        have CR := hide (x_reach_any (hist P (k + 1)) g1 g2)
        have HB := hide (fun (j : Nat) (h : j < 8) => hist_bit P j k h)
        have G := hide (heard_pos' g1 g2)
        clear r0 r1 r2 r3 r4 fz HT F kc g1 g2
        generalize hq : hist P (k + 1) = B at *
        have HQ := hide hq
        clear hq
        go_loopw [7, 8, 9] (fun a b c wr => ∃ q : Nat, q ≤ 8 ∧ a = .int .i64 (upN B q) ∧ b = .int .i64 (upL B q) ∧ c = .int .i64 (7 - (q : Int)) ∧ HistAt wc wc.heap.size B wr) (fun _ _ i _ => (intOf i + 1).toNat)
        case atStart => exact ⟨0, by omega, rfl, rfl, rfl, T1.out⟩
        case round =>
          obtain ⟨q, hq, rfl, rfl, hc, T⟩ := hrel
          have ⟨b1, b2⟩ := upN_bd B q
          by_cases hlq : q < 8
          · obtain ⟨kk, hkk⟩ : ∃ kk : Nat, q + kk = 7 := ⟨7 - q, by omega⟩
            rw [show (7 : Int) - (q : Int) = (kk : Int) by omega] at hc
            subst hc
            have eN : upN B (q + 1) = upN B q + (if bitB B kk = true then 1 else 0) := by rw [show kk = 7 - q by omega]; rfl
            have eL : upL B (q + 1) = if bitB B kk = true then (kk : Int) else upL B q := by rw [show kk = 7 - q by omega]; rfl
            rw [HB.out kk (by omega)] at eN eL
            by_cases hki : kk ≤ k
            · obtain ⟨ii, hii⟩ : ∃ ii : Nat, ii + kk = k := ⟨k - kk, by omega⟩
              rw [show k - kk = ii by omega, decide_eq_true hki, Bool.true_and] at eN eL
              have e : (k : Int) - (kk : Int) = (ii : Int) := by omega
              have kc : wr.cell? ⟨b, off + ii, none⟩ = some (.bool (P ii)) := (T.below.cell (p := ⟨b, off + ii, none⟩) hbl).trans (HC.out ii (by omega))
              have HT := hide T
              clear T hii
              cases hv : P ii
              · rw [hv] at kc eN eL
                have EN := hide eN
                have EL := hide eL
                clear eN eL hv
                go_wp2
                go_roundw
                case rel => exact ⟨q + 1, by omega, by rw [EN.out]; simp, by rw [EL.out]; rfl, by simp; omega, HT.out⟩
                case measure => (simp [intOf]) <;> omega
              · rw [hv] at kc eN eL
                have EN := hide eN
                have EL := hide eL
                clear eN eL hv
                go_wp2
                go_roundw
                case rel => exact ⟨q + 1, by omega, by rw [EN.out]; simp, by rw [EL.out]; rfl, by simp; omega, HT.out⟩
                case measure => (simp [intOf]) <;> omega
            · rw [decide_eq_false hki, Bool.false_and] at eN eL
              have HT := hide T
              have EN := hide eN
              have EL := hide eL
              clear eN eL T
              go_wp2
              go_roundw
              case rel => exact ⟨q + 1, by omega, by rw [EN.out]; simp, by rw [EL.out]; rfl, by simp; omega, HT.out⟩
              case measure => (simp [intOf]) <;> omega
          · obtain rfl : q = 8 := by omega
            rw [show (7 : Int) - ((8 : Nat) : Int) = -1 by decide] at hc
            subst hc
            clear HB HC b1 b2
            obtain ⟨_, _, _, _, _, r0, r1, r2, r3, r4, _, _, _⟩ := id T
            have HT := hide T
            clear T
            generalize upN B 8 = x at *
            generalize upL B 8 = y at *
            go_wp2_with fail
            refine (CH.out _).mono ?_
            rintro e w2 ⟨rfl, hb⟩
            have T := HT.out.step hb
            clear r0 r1 r2 r3 r4 HT hb
            obtain ⟨_, _, _, _, _, r0, r1, r2, r3, r4, _, _, _⟩ := id T
            have HT := hide T
            clear T
            go_wp2_with fail
            refine (CL.out _).mono ?_
            rintro e w3 ⟨rfl, hb⟩
            have T := HT.out.step hb
            clear r0 r1 r2 r3 r4 HT hb
            obtain ⟨_, _, _, _, _, r0, r1, r2, r3, r4, _, _, _⟩ := id T
            have HT := hide T
            clear T
            go_wp2_with fail
            refine (CR.out _).mono ?_
            rintro e w4 ⟨rfl, hb⟩
            have T := HT.out.step hb
            clear r0 r1 r2 r3 r4 HT hb
            go_wp2
            go_roundw
            case rel => exact ⟨k + 1, by omega, by go_num, by rw [HQ.out]; exact T⟩
            case measure => (simp [intOf]) <;> omega
      · obtain ⟨s0, s1, s2, s3, s4, r0, r1, r2, r3, r4, fz, _, _⟩ := id T
        have HT := hide T
        clear T
        go_wp2_with fail
        refine (C5.out _).mono ?_
        rintro e w4 ⟨rfl, hb⟩
        go_wp2
        go_ret
        exact ⟨rfl, (HT.out.below.setCell (p := ⟨wc.heap.size + 1, 0, none⟩) (by simp) _).trans (hb.mono (by have := HT.out.lt; simp [go_sem]; omega))⟩
end Go.Proofs.Ytblegmmljegmaaa.Rch
