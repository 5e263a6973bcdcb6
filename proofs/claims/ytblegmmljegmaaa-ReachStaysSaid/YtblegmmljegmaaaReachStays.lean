/- The walk of the law ReachStays. -/
import Derived.Test.YtblegmmljegmaaaRchM
namespace Go.Proofs.Ytblegmmljegmaaa.Rch
open Go.RowKit Aid
theorem c_check (q : Reg) (k : Ok q) (W : World) : Calls Try.prog 12 #[.agg #[.int .i64 q.bits, .int .i64 q.poll, .int .i64 q.mn, .int .i64 q.mx, .int .i64 q.cnt]] W fun e w' => e = .returned (.int .i64 0) ∧ Below W.heap.size W w' := by
  have := Check_any q.bits q.poll q.mn q.mx q.cnt W
  rwa [show chk ⟨q.bits, q.poll, q.mn, q.mx, q.cnt⟩ = 0 from ok_chk k] at this
theorem wrap_id {x : Int} (h1 : -9223372036854775808 ≤ x) (h2 : x ≤ 9223372036854775807) : IntKind.i64.wrap x = x := IntWalk.i64_in _ ⟨h1, h2⟩
def Step (r : Reg) (most : Int) (W : World) (e : Ending) (w' : World) : Prop := ∃ s : Reg, e = .returned (.agg #[.int .i64 s.bits, .int .i64 s.poll, .int .i64 s.mn, .int .i64 s.mx, .int .i64 s.cnt]) ∧ Ok s ∧ s.mn = r.mn ∧ s.mx = r.mx ∧ s.poll - r.poll ≤ most ∧ r.poll - s.poll ≤ min most 1 ∧ Below W.heap.size W w'
theorem c_shift (r : Reg) (k : Ok r) (h : Bool) (W : World) : Calls Try.prog 22 #[.agg #[.int .i64 r.bits, .int .i64 r.poll, .int .i64 r.mn, .int .i64 r.mx, .int .i64 r.cnt], .bool h] W (Step r 0 W) := by
  refine (Shift_any r.bits r.poll r.mn r.mx r.cnt h W).mono ?_
  rintro e w' ⟨rfl, hb⟩
  obtain ⟨h1, h2, h3, h4⟩ := shift_ok k h
  exact ⟨shift r h, rfl, h1, h3, h4, by omega, by omega, hb⟩
theorem c_adapt (r : Reg) (k : Ok r) (o j : Int) (o1 : -9223372036854775808 ≤ o) (o2 : o ≤ 9223372036854775807) (j1 : -9223372036854775808 ≤ j) (j2 : j ≤ 9223372036854775807) (W : World) : Calls Try.prog 9 #[.agg #[.int .i64 r.bits, .int .i64 r.poll, .int .i64 r.mn, .int .i64 r.mx, .int .i64 r.cnt], .int .i64 o, .int .i64 j] W (Step r 1 W) := by
  refine (Adapt_any r.bits r.poll r.mn r.mx r.cnt o j o1 o2 j1 j2 W).mono ?_
  rintro e w' ⟨rfl, hb⟩
  obtain ⟨h1, h2, h3, h4, h5⟩ := adapt_ok k o j
  exact ⟨adapt r o j, rfl, h1, h2, h3, h4, by omega, hb⟩
theorem c_backoff (r : Reg) (k : Ok r) (W : World) : Calls Try.prog 24 #[.agg #[.int .i64 r.bits, .int .i64 r.poll, .int .i64 r.mn, .int .i64 r.mx, .int .i64 r.cnt]] W (Step r 2 W) := by
  refine (Backoff_any r.bits r.poll r.mn r.mx r.cnt W).mono ?_
  rintro e w' ⟨rfl, hb⟩
  obtain ⟨h1, h2, h3, h4, h5, h6⟩ := backoff_ok k
  have := k.p2
  exact ⟨backoff r, rfl, h1, h5, h6, by omega, by omega, hb⟩
theorem c_wait (q : Reg) (W : World) : Calls Try.prog 20 #[.agg #[.int .i64 q.bits, .int .i64 q.poll, .int .i64 q.mn, .int .i64 q.mx, .int .i64 q.cnt]] W fun e w' => e = .returned (.int .i64 (waitV q)) ∧ Below W.heap.size W w' := Wait_any q.bits q.poll q.mn q.mx q.cnt W
theorem RegAt.new2 (W : World) (D : Obj) (r : Reg) : RegAt ((W.alloc D).alloc (.cells #[.int .i64 r.bits, .int .i64 r.poll, .int .i64 r.mn, .int .i64 r.mx, .int .i64 r.cnt] 23)) (W.heap.size + 1) r := by
  constructor <;> simp [go_sem]
set_option maxRecDepth 100000 in
set_option maxHeartbeats 6400000 in
theorem ReachStays_bad (bits poll mn mx cnt : Int) (a : Option Addr) (n cap : Nat) (w : World) (hz : chk ⟨bits, poll, mn, mx, cnt⟩ ≠ 0) :
    Calls Try.prog 7 #[.agg #[.int .i64 bits, .int .i64 poll, .int .i64 mn, .int .i64 mx, .int .i64 cnt], .slice a n cap] w fun e w' => e = .returned (.bool true) ∧ Below w.heap.size w w' := by
  have hB : w.heap.size + 1 ≤ (w.alloc (.cells #[.int .i64 bits, .int .i64 poll, .int .i64 mn, .int .i64 mx, .int .i64 cnt] 23)).heap.size := by simp
  have C0 := hide (based hB fun W _ => Check_any bits poll mn mx cnt W)
  have CA := based hB fun W _ => Adapt_any bits poll mn mx cnt 0 1 (by omega) (by omega) (by omega) (by omega) W
  have CB := based hB fun W _ => Backoff_any bits poll mn mx cnt W
  have ea : adapt ⟨bits, poll, mn, mx, cnt⟩ 0 1 = zeroR := by unfold adapt; rw [if_neg hz]
  have eb : backoff ⟨bits, poll, mn, mx, cnt⟩ = zeroR := by unfold backoff; rw [if_neg hz]
  rw [ea] at CA
  rw [eb] at CB
  simp only [regV, zeroR] at CA CB
  have C1 := hide CA
  have C2 := hide CB
  have C5 := hide (based hB fun W _ => awake_any W)
  have K := hide (fun W h => conf_cells (w := w) (x0 := .int .i64 bits) (x1 := .int .i64 poll) (x2 := .int .i64 mn) (x3 := .int .i64 mx) (x4 := .int .i64 cnt) (T := 23) (W := W) h)
  have hz1 : (chk ⟨bits, poll, mn, mx, cnt⟩ != 0) = true := by simpa using hz
  generalize chk ⟨bits, poll, mn, mx, cnt⟩ = k at *
  clear hz hB CA CB ea eb
  have hb := Below.refl (w.heap.size + 1) (w.alloc (.cells #[.int .i64 bits, .int .i64 poll, .int .i64 mn, .int .i64 mx, .int .i64 cnt] 23))
  go_enter Try.func7, Try.ntmps7
  go_wp2_with fail
  refine (C0.out _ hb).mono ?_
  rintro e w1 ⟨rfl, hb1⟩
  obtain ⟨k0, k1, k2, k3, k4, _⟩ := K.out _ hb1
  go_wp2_with fail
  refine (C1.out _ hb1).mono ?_
  rintro e w2 ⟨rfl, hb2⟩
  clear k0 k1 k2 k3 k4
  obtain ⟨k0, k1, k2, k3, k4, _⟩ := K.out _ hb2
  go_wp2_with fail
  refine (C2.out _ hb2).mono ?_
  rintro e w3 ⟨rfl, hb3⟩
  go_wp2_with fail
  refine (C5.out _ hb3).mono ?_
  rintro e w4 ⟨rfl, hb4⟩
  go_wp2
  go_ret
  exact ⟨rfl, box_below hb4⟩
set_option maxRecDepth 100000 in
set_option maxHeartbeats 6400000 in
theorem ReachStays_good (q : Reg) (a : Option Addr) (n cap : Nat) (K O J : Nat → Int) (w : World) (hnc : n ≤ cap) (hcap : cap ≤ 9223372036854775807) (hnone : a = none → cap = 0) (hp : DeedAt w a n K O J) (ok : Ok q) :
    Calls Try.prog 7 #[.agg #[.int .i64 q.bits, .int .i64 q.poll, .int .i64 q.mn, .int .i64 q.mx, .int .i64 q.cnt], .slice a n cap] w fun e w' => e = .returned (.bool true) ∧ Below w.heap.size w w' := by
  have CC := hide c_check
  have C5 := hide awake_any
  obtain ⟨m, hm⟩ : ∃ m : Nat, m = min n 300 := ⟨_, rfl⟩
  have hp' : DeedAt w a m K O J := ⟨by have := hp.1; omega, fun h => by
    obtain ⟨b, off, h1, h2, h3⟩ := hp.2 (by omega)
    exact ⟨b, off, h1, h2, fun i hi => h3 i (by omega)⟩⟩
  have HP := hide hp'
  have OK := hide ok
  have hb0 : Below w.heap.size w (w.alloc (.cells #[.int .i64 q.bits, .int .i64 q.poll, .int .i64 q.mn, .int .i64 q.mx, .int .i64 q.cnt] 23)) := (Below.refl _ _).alloc (Nat.le_refl _) _
  have HB0 := hide hb0
  have hr0 := RegAt.new w q
  have HR0 := hide hr0
  clear hp hp' ok hb0 hr0
  go_enter Try.func7, Try.ntmps7
  go_wp2_with fail
  refine (CC.out _ OK.out _).mono ?_
  rintro e w1 ⟨rfl, hb⟩
  have BB := hide (HB0.out.trans (hb.mono (by simp)))
  have RR := hide (HR0.out.step hb)
  clear hb HB0 HR0
  go_upto_region 3 with fail
  go_cut [29, 30, 31] (fun s l i0 wx => ∃ A : Option Addr, s = .slice A m cap ∧ l = .int .i64 m ∧ i0 = .int .i64 0 ∧ DeedAt w A m K O J ∧ wx = w1)
  case first =>
    have hmm := HP.out.1
    cases a with
    | none =>
      obtain rfl := hnone rfl
      obtain rfl : n = 0 := by omega
      obtain rfl : m = 0 := by omega
      clear hm
      go_wp2
      go_meet
      case rel => exact ⟨_, rfl, rfl, rfl, HP.out, rfl⟩
    | some ad =>
      by_cases hn : n ≤ 300
      · obtain rfl : m = n := by omega
        clear hm
        go_wp2
        go_meet
        case rel => exact ⟨_, rfl, rfl, rfl, HP.out, rfl⟩
      · obtain rfl : m = 300 := by omega
        clear hm
        go_wp2
        go_meet
        case rel => exact ⟨_, rfl, rfl, rfl, HP.out, rfl⟩
  case rest =>
    obtain ⟨A, rfl, rfl, rfl, hA, rfl⟩ := hcut
    have HA := hide hA
    have hm3 : m ≤ 300 := by omega
    clear hA HP hm
    go_wp2
    go_loopw [31] (fun i wr => ∃ (k : Nat) (r : Reg), k ≤ m ∧ i = .int .i64 k ∧ Ok r ∧ RegAt wr w.heap.size r ∧ Below w.heap.size w wr) (fun i _ => m - (intOf i).toNat)
    case atStart => exact ⟨0, q, by omega, rfl, OK.out, RR.out, BB.out⟩
    case round =>
      clear BB RR OK
      obtain ⟨k, r, hk, rfl, ok, T, bel⟩ := hrel
      by_cases hlt : k < m
      · obtain ⟨b, off, rfl, hbl, hcell⟩ := HA.out.2 (by omega)
        obtain ⟨d0, d1, d2, o1, o2, j1, j2⟩ := hcell k hlt
        have kc0 := (bel.cell (p := ⟨b, off + k * 3, none⟩) hbl).trans d0
        have kc1 := (bel.cell (p := ⟨b, off + (k * 3 + 1), none⟩) hbl).trans d1
        have kc2 := (bel.cell (p := ⟨b, off + (k * 3 + 2), none⟩) hbl).trans d2
        rw [← Nat.add_assoc] at kc1 kc2
        clear hcell d0 d1 d2
        have OK := hide ok
        have HT := hide T
        have HBel := hide bel
        clear ok bel
        obtain ⟨x0, x1, x2, x3, x4, xf, xlt⟩ := id T
        clear T
        generalize O k = o at *
        generalize J k = j at *
        by_cases h0 : K k = 0
        · rw [h0] at kc0
          clear h0
          have F := hide (c_shift r OK.out (o.tmod 2 == 0))
          go_wp2_with fail
          refine (F.out _).mono ?_
          rintro e w2 ⟨s, rfl, os, e1, e2, e3, e4, hb⟩
          have RN0 := ((HT.out.alloc _).alloc _).step hb
          have RS0 := (RegAt.new2 wr _ r).step hb
          have BB := ((HBel.out.alloc HBel.out.size _).alloc (by have := HBel.out.size; simp; omega) _).trans (hb.mono (by have := HBel.out.size; simp; omega))
          have RS := hide (RS0.store s)
          have RN := hide (RN0.other (c := wr.heap.size + 1) s (by omega))
          have HBel2 := hide (put5_below BB (b := wr.heap.size + 1) (by have := HBel.out.size; omega) s)
          have OS := hide os
          have E1 := hide e1
          have E2 := hide e2
          have E3 := hide e3
          have E4 := hide e4
          clear x0 x1 x2 x3 x4 xf kc0 kc1 kc2 HT HBel F BB RN0 os e1 e2 e3 e4 hb
          obtain ⟨y0, y1, y2, y3, y4, yf, ylt⟩ := RS0
          go_wp2_with fail
          refine (CC.out s OS.out _).mono ?_
          rintro e w3 ⟨rfl, hb⟩
          have T := RS.out.step hb
          have U := RN.out.step hb
          have BB := HBel2.out.trans (hb.mono HBel2.out.size)
          clear y0 y1 y2 y3 y4 yf ylt RS RN HBel2 hb
          have SS := OS
          obtain ⟨y0, y1, y2, y3, y4, yf, ylt⟩ := id T
          obtain ⟨x0, x1, x2, x3, x4, xf, xlt⟩ := id U
          have HT := hide T
          have HU := hide U
          have HBel := hide BB
          have p1 := SS.out.p1
          have p2 := SS.out.p2
          have p3 := SS.out.n1
          have p4 := SS.out.x2
          have p5 := OK.out.p1
          have p6 := OK.out.p2
          have p7 := OK.out.n1
          have p8 := OK.out.x2
          have e1 := E1.out
          have e2 := E2.out
          have e3 := E3.out
          have e4 := E4.out
          clear T U BB
          go_wp2
          have q1 : 3 ≤ r.poll := by omega
          have q2 : r.poll ≤ 17 := by omega
          have qw : IntKind.i64.wrap (r.poll + 1) = r.poll + 1 := wrap_id (by omega) (by omega)
          have hb3 := Below.refl w3.heap.size w3
          have CS := hide (based (Nat.le_refl _) fun W (_ : Below w3.heap.size w3 W) => c_wait s W)
          have CRv := hide (based (Nat.le_refl _) fun W (_ : Below w3.heap.size w3 W) => c_wait r W)
          have HK := hide (fun (W : World) (h : Below w3.heap.size w3 W) => And.intro (HT.out.step h) (HU.out.step h))
          have K2 := hide (fun (W : World) (h : Below w3.heap.size w3 W) => And.intro (HK.out W h).1.r0 (And.intro (HK.out W h).1.r1 (And.intro (HK.out W h).1.r2 (And.intro (HK.out W h).1.r3 (And.intro (HK.out W h).1.r4 (And.intro (HK.out W h).2.r0 (And.intro (HK.out W h).2.r1 (And.intro (HK.out W h).2.r2 (And.intro (HK.out W h).2.r3 (And.intro (HK.out W h).2.r4 h))))))))))
          by_cases hp : s.poll = r.poll + 1
          · exfalso; omega
          · have OKN : Hid (Ok ⟨s.bits, s.poll, r.mn, r.mx, s.cnt⟩) := hide (by rw [← E1.out, ← E2.out]; exact SS.out)
            have hp' : (s.poll == r.poll + 1) = false := by simpa using hp
            clear hp p1 p2 p3 p4 p5 p6 p7 p8
            go_quiet (fail)
            go_wp2
            go_roundw
            case rel => exact ⟨k + 1, ⟨s.bits, s.poll, r.mn, r.mx, s.cnt⟩, by omega, by go_num, OKN.out, RegAt.store (HK.out (w3.drewN nq) (below_drewN hb3 nq)).2 ⟨s.bits, s.poll, r.mn, r.mx, s.cnt⟩, put5_below (HBel.out.trans (Below.mono (below_drewN hb3 nq) HBel.out.size)) (Nat.le_refl _) ⟨s.bits, s.poll, r.mn, r.mx, s.cnt⟩⟩
            case measure => (simp [intOf]) <;> omega
        · by_cases h1 : K k = 1
          · rw [h1] at kc0
            clear h0 h1
            have F := hide (c_adapt r OK.out o j o1 o2 j1 j2)
            go_wp2_with fail
            refine (F.out _).mono ?_
            rintro e w2 ⟨s, rfl, os, e1, e2, e3, e4, hb⟩
            have RN0 := ((HT.out.alloc _).alloc _).step hb
            have RS0 := (RegAt.new2 wr _ r).step hb
            have BB := ((HBel.out.alloc HBel.out.size _).alloc (by have := HBel.out.size; simp; omega) _).trans (hb.mono (by have := HBel.out.size; simp; omega))
            have RS := hide (RS0.store s)
            have RN := hide (RN0.other (c := wr.heap.size + 1) s (by omega))
            have HBel2 := hide (put5_below BB (b := wr.heap.size + 1) (by have := HBel.out.size; omega) s)
            have OS := hide os
            have E1 := hide e1
            have E2 := hide e2
            have E3 := hide e3
            have E4 := hide e4
            clear x0 x1 x2 x3 x4 xf kc0 kc1 kc2 HT HBel F BB RN0 os e1 e2 e3 e4 hb
            obtain ⟨y0, y1, y2, y3, y4, yf, ylt⟩ := RS0
            go_wp2_with fail
            refine (CC.out s OS.out _).mono ?_
            rintro e w3 ⟨rfl, hb⟩
            have T := RS.out.step hb
            have U := RN.out.step hb
            have BB := HBel2.out.trans (hb.mono HBel2.out.size)
            clear y0 y1 y2 y3 y4 yf ylt RS RN HBel2 hb
            have SS := OS
            obtain ⟨y0, y1, y2, y3, y4, yf, ylt⟩ := id T
            obtain ⟨x0, x1, x2, x3, x4, xf, xlt⟩ := id U
            have HT := hide T
            have HU := hide U
            have HBel := hide BB
            have p1 := SS.out.p1
            have p2 := SS.out.p2
            have p3 := SS.out.n1
            have p4 := SS.out.x2
            have p5 := OK.out.p1
            have p6 := OK.out.p2
            have p7 := OK.out.n1
            have p8 := OK.out.x2
            have e1 := E1.out
            have e2 := E2.out
            have e3 := E3.out
            have e4 := E4.out
            clear T U BB
            go_wp2
            have q1 : 3 ≤ r.poll := by omega
            have q2 : r.poll ≤ 17 := by omega
            have qw : IntKind.i64.wrap (r.poll + 1) = r.poll + 1 := wrap_id (by omega) (by omega)
            have hb3 := Below.refl w3.heap.size w3
            have CS := hide (based (Nat.le_refl _) fun W (_ : Below w3.heap.size w3 W) => c_wait s W)
            have CRv := hide (based (Nat.le_refl _) fun W (_ : Below w3.heap.size w3 W) => c_wait r W)
            have HK := hide (fun (W : World) (h : Below w3.heap.size w3 W) => And.intro (HT.out.step h) (HU.out.step h))
            have K2 := hide (fun (W : World) (h : Below w3.heap.size w3 W) => And.intro (HK.out W h).1.r0 (And.intro (HK.out W h).1.r1 (And.intro (HK.out W h).1.r2 (And.intro (HK.out W h).1.r3 (And.intro (HK.out W h).1.r4 (And.intro (HK.out W h).2.r0 (And.intro (HK.out W h).2.r1 (And.intro (HK.out W h).2.r2 (And.intro (HK.out W h).2.r3 (And.intro (HK.out W h).2.r4 h))))))))))
            by_cases hp : s.poll = r.poll + 1
            · have OKV : Hid (Ok ⟨s.bits, r.poll + 1, s.mn, s.mx, s.cnt⟩) := hide (by rw [← hp]; exact SS.out)
              have hw := wait_two OK.out SS.out hp
              rw [hp] at K2 CS y1
              clear hp e1 e2 e3 e4 p1 p2 p3 p4 p5 p6 p7 p8
              obtain ⟨v1, v2⟩ := wait_bd OK.out
              rw [hw] at CS
              have qv : IntKind.i64.wrap (2 * waitV r) = 2 * waitV r := wrap_id (by omega) (by omega)
              generalize waitV r = wv at *
              clear hw
              go_region_held3 (fun W => W.cell? ⟨wr.heap.size + 1, 0, none⟩ = some (.int .i64 s.bits) ∧ W.cell? ⟨wr.heap.size + 1, 1, none⟩ = some (.int .i64 (r.poll + 1)) ∧ W.cell? ⟨wr.heap.size + 1, 2, none⟩ = some (.int .i64 s.mn) ∧ W.cell? ⟨wr.heap.size + 1, 3, none⟩ = some (.int .i64 s.mx) ∧ W.cell? ⟨wr.heap.size + 1, 4, none⟩ = some (.int .i64 s.cnt) ∧ W.cell? ⟨w.heap.size, 0, none⟩ = some (.int .i64 r.bits) ∧ W.cell? ⟨w.heap.size, 1, none⟩ = some (.int .i64 r.poll) ∧ W.cell? ⟨w.heap.size, 2, none⟩ = some (.int .i64 r.mn) ∧ W.cell? ⟨w.heap.size, 3, none⟩ = some (.int .i64 r.mx) ∧ W.cell? ⟨w.heap.size, 4, none⟩ = some (.int .i64 r.cnt) ∧ Below w3.heap.size w3 W)
                (first | exact K2.out _ (by assumption) | exact K2.out _ (Below.drew (by assumption)))
                (first | (go_at_call 20; refine (CS.out _ (by first | assumption | exact And.right (And.right (And.right (And.right (And.right (And.right (And.right (And.right (And.right (And.right (by assumption)))))))))))).mono ?_; rintro e w' ⟨rfl, hb⟩) | (go_at_call 20; refine (CRv.out _ (by first | assumption | exact And.right (And.right (And.right (And.right (And.right (And.right (And.right (And.right (And.right (And.right (by assumption)))))))))))).mono ?_; rintro e w' ⟨rfl, hb⟩))
              clear y0 y1 y2 y3 y4 yf ylt x0 x1 x2 x3 x4 xf xlt
              obtain ⟨⟨y0, y1, y2, y3, y4, yf, ylt⟩, ⟨x0, x1, x2, x3, x4, xf, xlt⟩⟩ := HK.out _ hb
              go_wp2
              go_roundw
              case rel => exact ⟨k + 1, ⟨s.bits, r.poll + 1, s.mn, s.mx, s.cnt⟩, by omega, by go_num, OKV.out, RegAt.store (HK.out _ hb).2 ⟨s.bits, r.poll + 1, s.mn, s.mx, s.cnt⟩, put5_below (HBel.out.trans (Below.mono hb HBel.out.size)) (Nat.le_refl _) ⟨s.bits, r.poll + 1, s.mn, s.mx, s.cnt⟩⟩
              case measure => (simp [intOf]) <;> omega
            · have OKN : Hid (Ok ⟨s.bits, s.poll, r.mn, r.mx, s.cnt⟩) := hide (by rw [← E1.out, ← E2.out]; exact SS.out)
              have hp' : (s.poll == r.poll + 1) = false := by simpa using hp
              clear hp p1 p2 p3 p4 p5 p6 p7 p8
              go_quiet (fail)
              go_wp2
              go_roundw
              case rel => exact ⟨k + 1, ⟨s.bits, s.poll, r.mn, r.mx, s.cnt⟩, by omega, by go_num, OKN.out, RegAt.store (HK.out (w3.drewN nq) (below_drewN hb3 nq)).2 ⟨s.bits, s.poll, r.mn, r.mx, s.cnt⟩, put5_below (HBel.out.trans (Below.mono (below_drewN hb3 nq) HBel.out.size)) (Nat.le_refl _) ⟨s.bits, s.poll, r.mn, r.mx, s.cnt⟩⟩
              case measure => (simp [intOf]) <;> omega
          · by_cases h2 : K k = 2
            · rw [h2] at kc0
              clear h0 h1 h2
              have F := hide (c_backoff r OK.out)
              go_wp2_with fail
              refine (F.out _).mono ?_
              rintro e w2 ⟨s, rfl, os, e1, e2, e3, e4, hb⟩
              have RN0 := ((HT.out.alloc _).alloc _).step hb
              have RS0 := (RegAt.new2 wr _ r).step hb
              have BB := ((HBel.out.alloc HBel.out.size _).alloc (by have := HBel.out.size; simp; omega) _).trans (hb.mono (by have := HBel.out.size; simp; omega))
              have RS := hide (RS0.store s)
              have RN := hide (RN0.other (c := wr.heap.size + 1) s (by omega))
              have HBel2 := hide (put5_below BB (b := wr.heap.size + 1) (by have := HBel.out.size; omega) s)
              have OS := hide os
              have E1 := hide e1
              have E2 := hide e2
              have E3 := hide e3
              have E4 := hide e4
              clear x0 x1 x2 x3 x4 xf kc0 kc1 kc2 HT HBel F BB RN0 os e1 e2 e3 e4 hb
              obtain ⟨y0, y1, y2, y3, y4, yf, ylt⟩ := RS0
              go_wp2_with fail
              refine (CC.out s OS.out _).mono ?_
              rintro e w3 ⟨rfl, hb⟩
              have T := RS.out.step hb
              have U := RN.out.step hb
              have BB := HBel2.out.trans (hb.mono HBel2.out.size)
              clear y0 y1 y2 y3 y4 yf ylt RS RN HBel2 hb
              have SS := OS
              obtain ⟨y0, y1, y2, y3, y4, yf, ylt⟩ := id T
              obtain ⟨x0, x1, x2, x3, x4, xf, xlt⟩ := id U
              have HT := hide T
              have HU := hide U
              have HBel := hide BB
              have p1 := SS.out.p1
              have p2 := SS.out.p2
              have p3 := SS.out.n1
              have p4 := SS.out.x2
              have p5 := OK.out.p1
              have p6 := OK.out.p2
              have p7 := OK.out.n1
              have p8 := OK.out.x2
              have e1 := E1.out
              have e2 := E2.out
              have e3 := E3.out
              have e4 := E4.out
              clear T U BB
              go_wp2
              have q1 : 3 ≤ r.poll := by omega
              have q2 : r.poll ≤ 17 := by omega
              have qw : IntKind.i64.wrap (r.poll + 1) = r.poll + 1 := wrap_id (by omega) (by omega)
              have hb3 := Below.refl w3.heap.size w3
              have CS := hide (based (Nat.le_refl _) fun W (_ : Below w3.heap.size w3 W) => c_wait s W)
              have CRv := hide (based (Nat.le_refl _) fun W (_ : Below w3.heap.size w3 W) => c_wait r W)
              have HK := hide (fun (W : World) (h : Below w3.heap.size w3 W) => And.intro (HT.out.step h) (HU.out.step h))
              have K2 := hide (fun (W : World) (h : Below w3.heap.size w3 W) => And.intro (HK.out W h).1.r0 (And.intro (HK.out W h).1.r1 (And.intro (HK.out W h).1.r2 (And.intro (HK.out W h).1.r3 (And.intro (HK.out W h).1.r4 (And.intro (HK.out W h).2.r0 (And.intro (HK.out W h).2.r1 (And.intro (HK.out W h).2.r2 (And.intro (HK.out W h).2.r3 (And.intro (HK.out W h).2.r4 h))))))))))
              by_cases hp : s.poll = r.poll + 1
              · have OKV : Hid (Ok ⟨s.bits, r.poll + 1, s.mn, s.mx, s.cnt⟩) := hide (by rw [← hp]; exact SS.out)
                have hw := wait_two OK.out SS.out hp
                rw [hp] at K2 CS y1
                clear hp e1 e2 e3 e4 p1 p2 p3 p4 p5 p6 p7 p8
                obtain ⟨v1, v2⟩ := wait_bd OK.out
                rw [hw] at CS
                have qv : IntKind.i64.wrap (2 * waitV r) = 2 * waitV r := wrap_id (by omega) (by omega)
                generalize waitV r = wv at *
                clear hw
                go_region_held3 (fun W => W.cell? ⟨wr.heap.size + 1, 0, none⟩ = some (.int .i64 s.bits) ∧ W.cell? ⟨wr.heap.size + 1, 1, none⟩ = some (.int .i64 (r.poll + 1)) ∧ W.cell? ⟨wr.heap.size + 1, 2, none⟩ = some (.int .i64 s.mn) ∧ W.cell? ⟨wr.heap.size + 1, 3, none⟩ = some (.int .i64 s.mx) ∧ W.cell? ⟨wr.heap.size + 1, 4, none⟩ = some (.int .i64 s.cnt) ∧ W.cell? ⟨w.heap.size, 0, none⟩ = some (.int .i64 r.bits) ∧ W.cell? ⟨w.heap.size, 1, none⟩ = some (.int .i64 r.poll) ∧ W.cell? ⟨w.heap.size, 2, none⟩ = some (.int .i64 r.mn) ∧ W.cell? ⟨w.heap.size, 3, none⟩ = some (.int .i64 r.mx) ∧ W.cell? ⟨w.heap.size, 4, none⟩ = some (.int .i64 r.cnt) ∧ Below w3.heap.size w3 W)
                  (first | exact K2.out _ (by assumption) | exact K2.out _ (Below.drew (by assumption)))
                  (first | (go_at_call 20; refine (CS.out _ (by first | assumption | exact And.right (And.right (And.right (And.right (And.right (And.right (And.right (And.right (And.right (And.right (by assumption)))))))))))).mono ?_; rintro e w' ⟨rfl, hb⟩) | (go_at_call 20; refine (CRv.out _ (by first | assumption | exact And.right (And.right (And.right (And.right (And.right (And.right (And.right (And.right (And.right (And.right (by assumption)))))))))))).mono ?_; rintro e w' ⟨rfl, hb⟩))
                clear y0 y1 y2 y3 y4 yf ylt x0 x1 x2 x3 x4 xf xlt
                obtain ⟨⟨y0, y1, y2, y3, y4, yf, ylt⟩, ⟨x0, x1, x2, x3, x4, xf, xlt⟩⟩ := HK.out _ hb
                go_wp2
                go_roundw
                case rel => exact ⟨k + 1, ⟨s.bits, r.poll + 1, s.mn, s.mx, s.cnt⟩, by omega, by go_num, OKV.out, RegAt.store (HK.out _ hb).2 ⟨s.bits, r.poll + 1, s.mn, s.mx, s.cnt⟩, put5_below (HBel.out.trans (Below.mono hb HBel.out.size)) (Nat.le_refl _) ⟨s.bits, r.poll + 1, s.mn, s.mx, s.cnt⟩⟩
                case measure => (simp [intOf]) <;> omega
              · have OKN : Hid (Ok ⟨s.bits, s.poll, r.mn, r.mx, s.cnt⟩) := hide (by rw [← E1.out, ← E2.out]; exact SS.out)
                have hp' : (s.poll == r.poll + 1) = false := by simpa using hp
                clear hp p1 p2 p3 p4 p5 p6 p7 p8
                go_quiet (fail)
                go_wp2
                go_roundw
                case rel => exact ⟨k + 1, ⟨s.bits, s.poll, r.mn, r.mx, s.cnt⟩, by omega, by go_num, OKN.out, RegAt.store (HK.out (w3.drewN nq) (below_drewN hb3 nq)).2 ⟨s.bits, s.poll, r.mn, r.mx, s.cnt⟩, put5_below (HBel.out.trans (Below.mono (below_drewN hb3 nq) HBel.out.size)) (Nat.le_refl _) ⟨s.bits, s.poll, r.mn, r.mx, s.cnt⟩⟩
                case measure => (simp [intOf]) <;> omega
            · have RS := hide (RegAt.new2 wr (.cells #[.int .i64 (K k), .int .i64 o, .int .i64 j] 38) r)
              have RN := hide ((HT.out.alloc (.cells #[.int .i64 (K k), .int .i64 o, .int .i64 j] 38)).alloc (.cells #[.int .i64 r.bits, .int .i64 r.poll, .int .i64 r.mn, .int .i64 r.mx, .int .i64 r.cnt] 23))
              have HBel2 := hide ((HBel.out.alloc HBel.out.size (.cells #[.int .i64 (K k), .int .i64 o, .int .i64 j] 38)).alloc (by have := HBel.out.size; simp; omega) (.cells #[.int .i64 r.bits, .int .i64 r.poll, .int .i64 r.mn, .int .i64 r.mx, .int .i64 r.cnt] 23))
              clear HT HBel
              go_wp2_with fail
              refine (CC.out r OK.out _).mono ?_
              rintro e w3 ⟨rfl, hb⟩
              have T := RS.out.step hb
              have U := RN.out.step hb
              have BB := HBel2.out.trans (hb.mono HBel2.out.size)
              clear x0 x1 x2 x3 x4 xf kc0 kc1 kc2 RS RN HBel2 hb
              have SS := OK
              obtain ⟨y0, y1, y2, y3, y4, yf, ylt⟩ := id T
              obtain ⟨x0, x1, x2, x3, x4, xf, xlt⟩ := id U
              have HT := hide T
              have HU := hide U
              have HBel := hide BB
              have p1 := SS.out.p1
              have p2 := SS.out.p2
              have p3 := SS.out.n1
              have p4 := SS.out.x2
              have p5 := OK.out.p1
              have p6 := OK.out.p2
              have p7 := OK.out.n1
              have p8 := OK.out.x2
              clear T U BB
              go_wp2
              have q1 : 3 ≤ r.poll := by omega
              have q2 : r.poll ≤ 17 := by omega
              have qw : IntKind.i64.wrap (r.poll + 1) = r.poll + 1 := wrap_id (by omega) (by omega)
              have hb3 := Below.refl w3.heap.size w3
              have CS := hide (based (Nat.le_refl _) fun W (_ : Below w3.heap.size w3 W) => c_wait r W)
              have CRv := hide (based (Nat.le_refl _) fun W (_ : Below w3.heap.size w3 W) => c_wait r W)
              have HK := hide (fun (W : World) (h : Below w3.heap.size w3 W) => And.intro (HT.out.step h) (HU.out.step h))
              have K2 := hide (fun (W : World) (h : Below w3.heap.size w3 W) => And.intro (HK.out W h).1.r0 (And.intro (HK.out W h).1.r1 (And.intro (HK.out W h).1.r2 (And.intro (HK.out W h).1.r3 (And.intro (HK.out W h).1.r4 (And.intro (HK.out W h).2.r0 (And.intro (HK.out W h).2.r1 (And.intro (HK.out W h).2.r2 (And.intro (HK.out W h).2.r3 (And.intro (HK.out W h).2.r4 h))))))))))
              by_cases hp : r.poll = r.poll + 1
              · exfalso; omega
              · have OKN : Hid (Ok ⟨r.bits, r.poll, r.mn, r.mx, r.cnt⟩) := hide SS.out
                have hp' : (r.poll == r.poll + 1) = false := by simpa using hp
                clear hp p1 p2 p3 p4 p5 p6 p7 p8
                go_quiet (fail)
                go_wp2
                go_roundw
                case rel => exact ⟨k + 1, ⟨r.bits, r.poll, r.mn, r.mx, r.cnt⟩, by omega, by go_num, OKN.out, RegAt.store (HK.out (w3.drewN nq) (below_drewN hb3 nq)).2 ⟨r.bits, r.poll, r.mn, r.mx, r.cnt⟩, put5_below (HBel.out.trans (Below.mono (below_drewN hb3 nq) HBel.out.size)) (Nat.le_refl _) ⟨r.bits, r.poll, r.mn, r.mx, r.cnt⟩⟩
                case measure => (simp [intOf]) <;> omega
      · obtain rfl : k = m := by omega
        have HT := hide T
        have HBel := hide bel
        clear T bel
        go_wp2_with fail
        refine (C5.out _).mono ?_
        rintro e w4 ⟨rfl, hb⟩
        go_wp2
        go_ret
        exact ⟨rfl, HBel.out.trans (hb.mono HBel.out.size)⟩
end Go.Proofs.Ytblegmmljegmaaa.Rch
