/- Rows of gates that the call owns; the contract of the reference's turned. -/
import Derived.Test.YtjjhdigbgmbmnaaSkxA
import Derived.Test.YtjjhdigbgmbmnaaSkwT
namespace Go.Proofs.Ytjjhdigbgmbmnaa.Skw
open Go.RowKit Aid Fx App
section
variable {P : Program}
theorem step_app2 (w : World) {ops : Array Oper} {o : Oper} {a : Act} {K : Act → World → Prop} {Q : Exit → Act → World → Prop} {E : Prop} (hgd : o.guard = none) (s x : Operand) (t : TypeId)
    (ho : o.op = .call { callee := .builtin .append, args := #[s, x], argTypes := #[t, t] })
    (base : Nat) (e : TypeId) (i : TypeInfo) (z : Value) (size bytes : Nat) (ht : P.underlying t = some (.slice e)) (hi : P.info? e = some i) (hz : i.zero = some z)
    (hsize : i.size = size) (hby : i.bytes = bytes) (hzs : z.cells.size = size) (hsz : 0 < size) (n : Nat) (xs : List Value) (hown : w.ownsRow base e size (a.eval s) n xs)
    (m : Nat) (news : List Value) (hx : ∃ A c, a.eval x = .slice A m c ∧ Src w size A m news) (h1 : ∀ u ∈ news, u.oneCell' = true) (h63 : n + m ≤ maxLen) (hbytes : (n + m) * bytes ≤ 140737488355328) (hbase : base ≤ w.heap.size)
    (h : ∀ v' w', w'.ownsRow base e size v' (n + m) (xs ++ news) → w.grownBy w' (a.eval s).ownBlock → (∀ g, (a.eval s).ownBlock = some g → base ≤ g) → K (a.put o.dst v') w') :
    if Region.wanted o (yielded ops a.tmps) = true then Oper.wp P o a w K Q else E := by
  obtain ⟨A, c, hx, hr⟩ := hx
  exact step_app w hgd s x t ho base e i z size bytes ht hi hz hsize hby hzs hsz (a.eval s) n xs rfl hown A m c news hx hr h1 h63 hbytes hbase fun v' w' q1 q2 _ => h v' w' q1 q2 (fun g hg => (hown.lt g hg).1)
end
def rowG (X L H : Nat → Int) : Nat → List Value
  | 0 => []
  | n + 1 => rowG X L H n ++ [.int .i64 (X n), .int .i64 (L n), .int .i64 (H n)]
theorem rowG_len (X L H : Nat → Int) : ∀ n, (rowG X L H n).length = n * 3
  | 0 => rfl
  | n + 1 => by unfold rowG; rw [List.length_append, rowG_len X L H n]; simp; omega
theorem rowG_get (X L H : Nat → Int) : ∀ n i, i < n → (rowG X L H n)[i * 3]? = some (.int .i64 (X i)) ∧ (rowG X L H n)[i * 3 + 1]? = some (.int .i64 (L i)) ∧ (rowG X L H n)[i * 3 + 2]? = some (.int .i64 (H i))
  | 0, i, h => by omega
  | n + 1, i, h => by
    unfold rowG
    rcases Nat.lt_or_ge i n with h1 | h1
    · obtain ⟨a, b, c⟩ := rowG_get X L H n i h1
      have hl := rowG_len X L H n
      rw [List.getElem?_append_left (by omega), List.getElem?_append_left (by omega), List.getElem?_append_left (by omega)]
      exact ⟨a, b, c⟩
    · obtain rfl : i = n := by omega
      have hl := rowG_len X L H i
      rw [List.getElem?_append_right (by omega), List.getElem?_append_right (by omega), List.getElem?_append_right (by omega), hl]
      have e1 : i * 3 - i * 3 = 0 := by omega
      have e2 : i * 3 + 1 - i * 3 = 1 := by omega
      have e3 : i * 3 + 2 - i * 3 = 2 := by omega
      rw [e1, e2, e3]
      exact ⟨rfl, rfl, rfl⟩
theorem row_gates {w : World} {base : Nat} {v : Value} {n : Nat} {X L H : Nat → Int} (h : w.ownsRow base 43 3 v n (rowG X L H n)) (hn : n ≤ 9223372036854775807) : ∃ p c, v = .slice p n c ∧ GatesAt w p n X L H ∧ n ≤ c := by
  rcases h.2 with ⟨rfl, rfl⟩ | ⟨g, cap, cur, rfl, hb, hg, hnc, hm, hs, ht⟩
  · exact ⟨none, 0, rfl, ⟨by omega, fun h => absurd h (by omega)⟩, by omega⟩
  · refine ⟨_, cap, rfl, ⟨hn, fun h0 => ⟨g, 0, rfl, (Array.getElem?_eq_some_iff.1 hg).1, fun i hi => ?_⟩⟩, hnc⟩
    obtain ⟨a, b, c⟩ := rowG_get X L H n i hi
    have key : ∀ j, j < n * 3 → w.cell? ⟨g, 0 + j, none⟩ = (rowG X L H n)[j]? := fun j hj => by
      rw [Nat.zero_add]
      refine (cell_of_row w g j _ _ _ hg).trans ?_
      rw [← Array.getElem?_toList, ← List.getElem?_take_of_lt hj, ht]
    exact ⟨(key _ (by omega)).trans a, (key (i * 3 + 1) (by omega)).trans b, (key (i * 3 + 2) (by omega)).trans c⟩
theorem info_gate : (Try.prog.info? 43).map (fun i => (i.zero, i.size, i.bytes)) = some (some (.agg #[.int .i64 0, .int .i64 0, .int .i64 0]), 3, 24) := by kernel_rfl
theorem three_one (x y z : Int) : ∀ u ∈ ([.int .i64 x, .int .i64 y, .int .i64 z] : List Value), u.oneCell' = true := by
  intro u hu
  simp at hu
  rcases hu with rfl | rfl | rfl <;> rfl
theorem low_size {w W : World} (h : Below w.heap.size w W) : w.heap.size ≤ W.heap.size := h.size
theorem src_g {V : World} {x y z : Value} {g : Nat} (hg : g = V.heap.size) : Src (V.alloc (.cells #[x, y, z] 43)) 3 (some ⟨g, 0, none⟩) 1 [x, y, z] := by subst hg; exact src_block (heap_alloc_new V _) rfl
theorem src_gd {V : World} {g m : Nat} {L : List Value} (h : Src V 3 (some ⟨g, 0, none⟩) m L) : Src V.drew 3 (some ⟨g, 0, none⟩) m L := h.far fun _ => rfl
set_option maxRecDepth 100000 in
set_option maxHeartbeats 6400000 in
theorem turned_any (a : Option Addr) (n cap : Nat) (X L H : Nat → Int) (w : World) (hr : GatesAt w a n X L H) (hR : ∀ i, i < n → InR (X i) (L i) (H i)) (h1 : 1 ≤ n) (hn : n ≤ 1024) :
    Calls Try.prog 37 #[.slice a n cap] w fun e w' => ∃ v, e = .returned v ∧ w'.ownsRow w.heap.size 43 3 v n (rowG X (fun i => -H i) (fun i => -L i) n) ∧ Below w.heap.size w w' := by
  obtain ⟨b, off, rfl, hlt, hc0⟩ := hr.at_ (by omega)
  have HGC := hide hc0
  have HS : Hid (∀ W, Below w.heap.size w W → ∀ i, i < n → W.cell? ⟨b, off + i * 3, none⟩ = some (.int .i64 (X i)) ∧ W.cell? ⟨b, off + i * 3 + 1, none⟩ = some (.int .i64 (L i)) ∧ W.cell? ⟨b, off + i * 3 + 2, none⟩ = some (.int .i64 (H i))) :=
    hide fun W h i hi => ⟨(h.cell (p := ⟨b, _, none⟩) hlt).trans (HGC.out i hi).1, (h.cell (p := ⟨b, _, none⟩) hlt).trans (HGC.out i hi).2.1, (h.cell (p := ⟨b, _, none⟩) hlt).trans (HGC.out i hi).2.2⟩
  have HRR := hide hR
  obtain ⟨i0, hi0, hz0, hz1, hz2⟩ := info_parts info_gate
  have HI0 := hide hi0
  have HZ0 := hide hz0
  have HZ1 := hide hz1
  have HZ2 := hide hz2
  clear hi0 hz0 hz1 hz2 hr hc0 hR HGC
  go_enter Try.func37, Try.ntmps37
  go_wp2
  go_loopw [3, 4] (fun v i wr => ∃ k : Nat, k ≤ n ∧ i = .int .i64 k ∧ wr.ownsRow w.heap.size 43 3 v k (rowG X (fun i => -H i) (fun i => -L i) k) ∧ Below w.heap.size w wr) (fun _ i _ => n - (intOf i).toNat)
  case atStart => exact ⟨0, Nat.zero_le _, rfl, World.ownsRow_nil _ _ _ _, Below.refl _ _⟩
  case round =>
    obtain ⟨k, hk, rfl, own, hb1⟩ := hrel
    by_cases hkn : k < n
    · have hkq : (k : Int) < (n : Int) := by omega
      have HO := hide own
      obtain ⟨p0, c0, hv0⟩ := (row_len own).2
      subst hv0
      clear own
      obtain ⟨y1, y2, y3, y4, y5, y6⟩ := HRR.out k hkn
      have w1 : wrap64 (-H k) = -H k := IntWalk.wrap64_in _ (by omega)
      have w2 : wrap64 (-L k) = -L k := IntWalk.wrap64_in _ (by omega)
      have w3 : IntKind.i64.wrap (-H k) = -H k := IntWalk.i64_in _ (by omega)
      have w4 : IntKind.i64.wrap (-L k) = -L k := IntWalk.i64_in _ (by omega)
      clear y1 y2 y3 y4 y5 y6
      have hbq := Nat.lt_of_lt_of_le hlt hb1.size
      have HK : Hid (∀ W, Below w.heap.size w W → W.cell? ⟨b, off + k * 3, none⟩ = some (.int .i64 (X k)) ∧ W.cell? ⟨b, off + k * 3 + 1, none⟩ = some (.int .i64 (L k)) ∧ W.cell? ⟨b, off + k * 3 + 2, none⟩ = some (.int .i64 (H k)) ∧ Below w.heap.size w W) := hide fun W h => ⟨(HS.out W h k hkn).1, (HS.out W h k hkn).2.1, (HS.out W h k hkn).2.2, h⟩
      have hbr := Below.refl wr.heap.size wr
      have hbb := hb1
      go_upto_region 5 with fail
      go_region_held3 (fun W => W.cell? ⟨b, off + k * 3, none⟩ = some (.int .i64 (X k)) ∧ W.cell? ⟨b, off + k * 3 + 1, none⟩ = some (.int .i64 (L k)) ∧ W.cell? ⟨b, off + k * 3 + 2, none⟩ = some (.int .i64 (H k)) ∧ Below w.heap.size w W)
        (exact HK.out _ (by (repeat (first | with_reducible exact hbb | with_reducible exact hb1 | with_reducible refine rat_up ?_ _ | with_reducible refine Below.drew ?_ | with_reducible refine below_drewN ?_ _))))
        (first | (refine step_app2 _ rfl (.tmp 11) (.tmp 30) 22 rfl w.heap.size 43 i0 _ 3 24 Try.underlying22 HI0.out HZ0.out HZ1.out HZ2.out rfl (Nat.zero_lt_succ 2) k (rowG X (fun i => -H i) (fun i => -L i) k) ?_ 1 [.int .i64 (X k), .int .i64 (-H k), .int .i64 (-L k)] ?_ (three_one _ _ _) ?_ ?_ ?_ ?_; (exact row_step HO.out (by (repeat (first | with_reducible exact hbr | with_reducible refine rat_up ?_ _ | with_reducible refine Below.drew ?_ | with_reducible refine below_drewN ?_ _)))); (first | exact ⟨_, _, rfl, src_g rfl⟩ | exact ⟨_, _, rfl, src_gd (src_g rfl)⟩ | (refine ⟨_, _, rfl, src_g ?_⟩; simp)); (unfold maxLen; omega); omega; (exact low_size (by (repeat (first | with_reducible exact hbb | with_reducible exact hb1 | with_reducible refine rat_up ?_ _ | with_reducible refine Below.drew ?_ | with_reducible refine below_drewN ?_ _)))); intro v1 wA hown1 hg1 hbk1; have hbb : Below w.heap.size w wA := Below.grown (by (repeat (first | with_reducible exact hbb | with_reducible exact hb1 | with_reducible refine rat_up ?_ _ | with_reducible refine Below.drew ?_ | with_reducible refine below_drewN ?_ _))) hg1 (low_size (by (repeat (first | with_reducible exact hbb | with_reducible exact hb1 | with_reducible refine rat_up ?_ _ | with_reducible refine Below.drew ?_ | with_reducible refine below_drewN ?_ _)))) hbk1))
      all_goals
        have O5 := hide hown1
        have B5 := hide hbb
        clear hown1 hbb HO hb1 hbr HK hg1 hbk1
        go_wp2
        go_roundw
        case rel => exact ⟨k + 1, by omega, by go_num, O5.out, B5.out⟩
        case measure => (simp [intOf]) <;> omega
    · have e : k = n := by omega
      subst e
      have hkk : decide ((k : Int) < (k : Int)) = false := by simp
      go_wp2
      go_ret
      exact ⟨_, rfl, own, hb1⟩
end Go.Proofs.Ytjjhdigbgmbmnaa.Skw
