/- The contracts of skew.Lower and skew.Upper. -/
import Derived.Test.YtjjhdigbgmbmnaaSkwU
import Derived.Deep.Onto
namespace Go.Proofs.Ytjjhdigbgmbmnaa.Skw
open Go.RowKit Aid Fx
def lowC (X H : Nat → Int) (i j k : Nat) : Bool := decide (0 < turnV (X i) (H i) (X j) (H j) (X k) (H k))
def uppC (X L : Nat → Int) (i j k : Nat) : Bool := decide (turnV (X i) (L i) (X j) (L j) (X k) (L k) < 0)
def lowS (X L H : Nat → Int) (n : Nat) : List Nat := if chkG X L H n = 0 then (hullS (lowC X H) n).reverse else []
def uppS (X L H : Nat → Int) (n : Nat) : List Nat := if chkG X L H n = 0 then (hullS (uppC X L) n).reverse else []
set_option maxRecDepth 100000 in
set_option maxHeartbeats 3200000 in
theorem Lower_any (a : Option Addr) (n cap : Nat) (X L H : Nat → Int) (w : World) (hr : GatesAt w a n X L H) (hcap : n ≤ cap) :
    Calls Try.prog 19 #[.slice a n cap] w fun e w' => ∃ v, e = .returned v ∧ w'.ownsRow w.heap.size 3 1 v (lowS X L H n).length (ints (lowS X L H n)) ∧ Below w.heap.size w w' := by
  have hn63 := hr.1
  have HB0 : Hid (Below w.heap.size w (w.alloc (.cells #[.slice a n cap] 22))) := hide ((Below.refl _ _).alloc (Nat.le_refl _) _)
  have HLX : Hid (w.heap.size < (w.alloc (.cells #[.slice a n cap] 22)).heap.size) := hide (by simp)
  have HX : Hid ((w.alloc (.cells #[.slice a n cap] 22)).cell? ⟨w.heap.size, 0, none⟩ = some (.slice a n cap)) := hide (by simp [go_sem])
  have CC := hide (fun W (h : Below w.heap.size w W) => Check_any a n cap X L H W (hr.below h))
  have HG := hide (fun W (h : Below w.heap.size w W) => hr.below h)
  clear hr
  by_cases hc : chkG X L H n = 0
  · rw [hc] at CC
    have HO := hide (chk_ok hc)
    have hS : lowS X L H n = (hullS (lowC X H) n).reverse := by unfold lowS; rw [if_pos hc]
    have HSS := hide hS
    rw [hS]
    clear hS
    obtain ⟨b, off, rfl, -, -⟩ := (HG.out w (Below.refl _ _)).at_ (by have := HO.out.n1; omega)
    have hn1 : n ≤ 1024 := HO.out.n2
    go_enter Try.func19, Try.ntmps19
    go_upto_region 1 with fail
    generalize hW0 : (w.alloc (.cells #[.slice (some ⟨b, off, none⟩) n cap] 22)) = W0 at HB0 HX HLX ⊢
    clear hW0
    have cx := HX.out
    go_wp2_with fail
    refine (CC.out _ HB0.out).mono ?_
    rintro e w1 ⟨rfl, hb⟩
    have B1 := rat_trans HB0.out hb
    have dx : w1.cell? ⟨w.heap.size, 0, none⟩ = some (.slice (some ⟨b, off, none⟩) n cap) := (hb.cell (p := ⟨w.heap.size, 0, none⟩) HLX.out).trans cx
    have lx : w.heap.size < w1.heap.size := Nat.lt_of_lt_of_le HLX.out hb.size
    clear hb CC cx HX HLX
    have CH : Hid (∀ W, Below w1.heap.size w1 W → Calls Try.prog 32 #[.int .i64 n, .func (.func 33) #[] #[.pointer (some ⟨w.heap.size, 0, none⟩)]] W fun e w' => ∃ v, e = .returned v ∧ w'.ownsRow W.heap.size 3 1 v (hullS (lowC X H) n).length (ints (hullS (lowC X H) n).reverse) ∧ Below W.heap.size W w') := by
      refine hide fun W hW => hull_low w.heap.size n (lowC X H) W hn1 fun W' hW' i j k hij hjk hk => ?_
      have hB := hW.trans (hW'.mono hW.size)
      exact lower1_any b off n cap X L H w.heap.size i j k W' (HG.out W' (B1.trans (hB.mono B1.size))) hn1 ((hB.cell (p := ⟨w.heap.size, 0, none⟩) lx).trans dx) (Nat.lt_of_lt_of_le lx hB.size) HO.out.r (by omega) (by omega) hk
    go_wp2_with fail
    refine (CH.out _ (by first | exact Below.refl _ _ | exact (Below.refl _ _).drew | exact below_drewN (Below.refl _ _) _)).mono ?_
    rintro e w2 ⟨v, rfl, own, hb2⟩
    have HOW := hide (own.mono (show w.heap.size ≤ w1.heap.size by omega))
    have HB2 := hide (rat_trans B1 hb2)
    clear own hb2 dx lx B1 CH
    go_wp2
    go_ret
    exact ⟨v, rfl, by rw [List.length_reverse]; exact HOW.out, HB2.out⟩
  · have hS : lowS X L H n = [] := by unfold lowS; rw [if_neg hc]
    rw [hS]
    clear hS HG
    generalize chkG X L H n = c at *
    have hcb : (c != 0) = true := by simp [hc]
    go_enter Try.func19, Try.ntmps19
    go_upto_region 1 with fail
    generalize hW0 : (w.alloc (.cells #[.slice a n cap] 22)) = W0 at HB0 HX HLX ⊢
    clear hW0
    have cx := HX.out
    go_wp2_with fail
    refine (CC.out _ HB0.out).mono ?_
    rintro e w1 ⟨rfl, hb⟩
    have B1 := hide (rat_trans HB0.out hb)
    clear hb cx HX HLX
    go_wp2
    go_ret
    exact ⟨_, rfl, World.ownsRow_nil _ _ _ _, B1.out⟩
set_option maxRecDepth 100000 in
set_option maxHeartbeats 3200000 in
theorem Upper_any (a : Option Addr) (n cap : Nat) (X L H : Nat → Int) (w : World) (hr : GatesAt w a n X L H) (hcap : n ≤ cap) :
    Calls Try.prog 21 #[.slice a n cap] w fun e w' => ∃ v, e = .returned v ∧ w'.ownsRow w.heap.size 3 1 v (uppS X L H n).length (ints (uppS X L H n)) ∧ Below w.heap.size w w' := by
  have hn63 := hr.1
  have HB0 : Hid (Below w.heap.size w (w.alloc (.cells #[.slice a n cap] 22))) := hide ((Below.refl _ _).alloc (Nat.le_refl _) _)
  have HLX : Hid (w.heap.size < (w.alloc (.cells #[.slice a n cap] 22)).heap.size) := hide (by simp)
  have HX : Hid ((w.alloc (.cells #[.slice a n cap] 22)).cell? ⟨w.heap.size, 0, none⟩ = some (.slice a n cap)) := hide (by simp [go_sem])
  have CC := hide (fun W (h : Below w.heap.size w W) => Check_any a n cap X L H W (hr.below h))
  have HG := hide (fun W (h : Below w.heap.size w W) => hr.below h)
  clear hr
  by_cases hc : chkG X L H n = 0
  · rw [hc] at CC
    have HO := hide (chk_ok hc)
    have hS : uppS X L H n = (hullS (uppC X L) n).reverse := by unfold uppS; rw [if_pos hc]
    have HSS := hide hS
    rw [hS]
    clear hS
    obtain ⟨b, off, rfl, -, -⟩ := (HG.out w (Below.refl _ _)).at_ (by have := HO.out.n1; omega)
    have hn1 : n ≤ 1024 := HO.out.n2
    go_enter Try.func21, Try.ntmps21
    go_upto_region 1 with fail
    generalize hW0 : (w.alloc (.cells #[.slice (some ⟨b, off, none⟩) n cap] 22)) = W0 at HB0 HX HLX ⊢
    clear hW0
    have cx := HX.out
    go_wp2_with fail
    refine (CC.out _ HB0.out).mono ?_
    rintro e w1 ⟨rfl, hb⟩
    have B1 := rat_trans HB0.out hb
    have dx : w1.cell? ⟨w.heap.size, 0, none⟩ = some (.slice (some ⟨b, off, none⟩) n cap) := (hb.cell (p := ⟨w.heap.size, 0, none⟩) HLX.out).trans cx
    have lx : w.heap.size < w1.heap.size := Nat.lt_of_lt_of_le HLX.out hb.size
    clear hb CC cx HX HLX
    have CH : Hid (∀ W, Below w1.heap.size w1 W → Calls Try.prog 32 #[.int .i64 n, .func (.func 36) #[] #[.pointer (some ⟨w.heap.size, 0, none⟩)]] W fun e w' => ∃ v, e = .returned v ∧ w'.ownsRow W.heap.size 3 1 v (hullS (uppC X L) n).length (ints (hullS (uppC X L) n).reverse) ∧ Below W.heap.size W w') := by
      refine hide fun W hW => hull_upp w.heap.size n (uppC X L) W hn1 fun W' hW' i j k hij hjk hk => ?_
      have hB := hW.trans (hW'.mono hW.size)
      exact upper1_any b off n cap X L H w.heap.size i j k W' (HG.out W' (B1.trans (hB.mono B1.size))) hn1 ((hB.cell (p := ⟨w.heap.size, 0, none⟩) lx).trans dx) (Nat.lt_of_lt_of_le lx hB.size) HO.out.r (by omega) (by omega) hk
    go_wp2_with fail
    refine (CH.out _ (by first | exact Below.refl _ _ | exact (Below.refl _ _).drew | exact below_drewN (Below.refl _ _) _)).mono ?_
    rintro e w2 ⟨v, rfl, own, hb2⟩
    have HOW := hide (own.mono (show w.heap.size ≤ w1.heap.size by omega))
    have HB2 := hide (rat_trans B1 hb2)
    clear own hb2 dx lx B1 CH
    go_wp2
    go_ret
    exact ⟨v, rfl, by rw [List.length_reverse]; exact HOW.out, HB2.out⟩
  · have hS : uppS X L H n = [] := by unfold uppS; rw [if_neg hc]
    rw [hS]
    clear hS HG
    generalize chkG X L H n = c at *
    have hcb : (c != 0) = true := by simp [hc]
    go_enter Try.func21, Try.ntmps21
    go_upto_region 1 with fail
    generalize hW0 : (w.alloc (.cells #[.slice a n cap] 22)) = W0 at HB0 HX HLX ⊢
    clear hW0
    have cx := HX.out
    go_wp2_with fail
    refine (CC.out _ HB0.out).mono ?_
    rintro e w1 ⟨rfl, hb⟩
    have B1 := hide (rat_trans HB0.out hb)
    clear hb cx HX HLX
    go_wp2
    go_ret
    exact ⟨_, rfl, World.ownsRow_nil _ _ _ _, B1.out⟩
end Go.Proofs.Ytjjhdigbgmbmnaa.Skw
