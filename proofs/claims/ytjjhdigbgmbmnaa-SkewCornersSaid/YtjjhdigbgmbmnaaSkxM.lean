/- Plain: with one gate left out, the bounds are wider; at the time of a gate the values lie in it. -/
import Derived.Test.YtjjhdigbgmbmnaaSkxI
import Derived.Test.YtjjhdigbgmbmnaaSkxE
import Derived.Test.YtjjhdigbgmbmnaaSkwR
namespace Go.Proofs.Ytjjhdigbgmbmnaa.Skw
open Go.RowKit Aid Fx
def eK (k i : Nat) : Nat := if i < k then i else i + 1
def sk (k : Nat) (f : Nat → Int) (i : Nat) : Int := f (eK k i)
theorem eK_lt {k i j : Nat} (h : i < j) : eK k i < eK k j := by unfold eK; split <;> split <;> omega
theorem eK_bd {k i n : Nat} (h : i < n - 1) : eK k i < n := by unfold eK; split <;> omega
theorem sk_ok {X L H : Nat → Int} {n k : Nat} (ok : GOk X L H n) (h2 : 2 ≤ n) : GOk (sk k X) (sk k L) (sk k H) (n - 1) :=
  ⟨by omega, by have := ok.n2; omega, fun i hi => ok.r _ (eK_bd hi), fun i hi => ok.lh _ (eK_bd hi), fun i j hij hj => ok.inc _ _ (eK_lt hij) (eK_bd hj)⟩
theorem top_mono {f : Nat → Nat → Rat} {n k : Nat} {r s : Rat} (h : IsTop (fun i j => f (eK k i) (eK k j)) (n - 1) r) (g : IsTop f n s) : r ≤ s := by
  obtain ⟨⟨i, j, h1, h2, rfl⟩, _⟩ := h
  exact g.2 _ _ (eK_lt h1) (eK_bd h2)
theorem bot_mono {f : Nat → Nat → Rat} {n k : Nat} {r s : Rat} (h : IsBot (fun i j => f (eK k i) (eK k j)) (n - 1) r) (g : IsBot f n s) : s ≤ r := by
  obtain ⟨⟨i, j, h1, h2, rfl⟩, _⟩ := h
  exact g.2 _ _ (eK_lt h1) (eK_bd h2)
theorem sk_sl (X L H : Nat → Int) (n k : Nat) (h3 : 3 ≤ n) : topR (sl1 (sk k X) (sk k L) (sk k H)) (n - 1) ≤ topR (sl1 X L H) n ∧ botR (sl2 X L H) n ≤ botR (sl2 (sk k X) (sk k L) (sk k H)) (n - 1) :=
  ⟨top_mono (f := sl1 X L H) (k := k) (top_is (by omega)) (top_is (by omega)), bot_mono (f := sl2 X L H) (k := k) (bot_is (by omega)) (bot_is (by omega))⟩
theorem sk_va (X L H : Nat → Int) (n k : Nat) (x : Int) (h3 : 3 ≤ n) : topR (va1 (sk k X) (sk k L) (sk k H) x) (n - 1) ≤ topR (va1 X L H x) n ∧ botR (va2 X L H x) n ≤ botR (va2 (sk k X) (sk k L) (sk k H) x) (n - 1) :=
  ⟨top_mono (f := va1 X L H x) (k := k) (top_is (by omega)) (top_is (by omega)), bot_mono (f := va2 X L H x) (k := k) (bot_is (by omega)) (bot_is (by omega))⟩
theorem va_fit {X L H : Nat → Int} {n : Nat} {x : Int} (ok : GOk X L H n) (h2 : 2 ≤ n) (hx : 0 ≤ x ∧ x ≤ 1073741824) : Fit (topR (va1 X L H x) n) ∧ Fit (botR (va2 X L H x) n) := by
  obtain ⟨⟨i, j, hij, hj, e⟩, _⟩ := top_is (f := va1 X L H x) h2
  obtain ⟨⟨i', j', hij', hj', e'⟩, _⟩ := bot_is (f := va2 X L H x) h2
  have h1 := ok.inc i j hij hj
  have h1' := ok.inc i' j' hij' hj'
  have m1 := vN_bd (ok.r i (by omega)) (ok.r j hj) hx
  have m2 := vN_bd (ok.r i' (by omega)) (ok.r j' hj') hx
  obtain ⟨x1, x2, x3, x4, x5, x6⟩ := ok.r i (by omega)
  obtain ⟨y1, y2, y3, y4, y5, y6⟩ := ok.r j hj
  obtain ⟨z1, z2, z3, z4, z5, z6⟩ := ok.r i' (by omega)
  obtain ⟨u1, u2, u3, u4, u5, u6⟩ := ok.r j' hj'
  rw [← e, ← e']
  unfold va1 va2
  exact ⟨fit_of (by omega) (by omega), fit_of (by omega) (by omega)⟩
theorem va_at {X L H : Nat → Int} {n k : Nat} (ok : GOk X L H n) (h2 : 2 ≤ n) (hk : k < n) : Rat.divInt (L k) 1 ≤ topR (va1 X L H (X k)) n ∧ botR (va2 X L H (X k)) n ≤ Rat.divInt (H k) 1 := by
  have t := top_is (f := va1 X L H (X k)) h2
  have b := bot_is (f := va2 X L H (X k)) h2
  have z : ∀ y : Int, y - y = 0 := fun y => by omega
  by_cases hl : k + 1 < n
  · have hinc := ok.inc k (k + 1) (by omega) hl
    have e1 : va1 X L H (X k) k (k + 1) = Rat.divInt (L k) 1 := by
      unfold va1 vN1
      rw [if_pos (by omega), eq_iff (by omega) (by omega), z, Int.mul_zero, Int.add_zero, Int.mul_one]
    have e2 : va2 X L H (X k) k (k + 1) = Rat.divInt (H k) 1 := by
      unfold va2 vN2
      rw [if_pos (by omega), eq_iff (by omega) (by omega), z, Int.mul_zero, Int.add_zero, Int.mul_one]
    exact ⟨by rw [← e1]; exact t.2 k (k + 1) (by omega) hl, by rw [← e2]; exact b.2 k (k + 1) (by omega) hl⟩
  · have hinc := ok.inc 0 k (by omega) hk
    have e1 : va1 X L H (X k) 0 k = Rat.divInt (L k) 1 := by
      unfold va1 vN1
      rw [if_neg (by omega), if_pos (by omega), eq_iff (by omega) (by omega), z, Int.mul_zero, Int.zero_add, Int.mul_one]
    have e2 : va2 X L H (X k) 0 k = Rat.divInt (H k) 1 := by
      unfold va2 vN2
      rw [if_neg (by omega), if_pos (by omega), eq_iff (by omega) (by omega), z, Int.mul_zero, Int.zero_add, Int.mul_one]
    exact ⟨by rw [← e1]; exact t.2 0 k (by omega) hk, by rw [← e2]; exact b.2 0 k (by omega) hk⟩
/-- the rows of the gates before and behind the one left out -/
theorem rowG_cat (X L H : Nat → Int) (k : Nat) : ∀ m, rowG X L H k ++ rowG (fun i => X (k + 1 + i)) (fun i => L (k + 1 + i)) (fun i => H (k + 1 + i)) m = rowG (sk k X) (sk k L) (sk k H) (k + m)
  | 0 => by
    show rowG X L H k ++ [] = _
    rw [List.append_nil, Nat.add_zero]
    have : ∀ j, j ≤ k → rowG X L H j = rowG (sk k X) (sk k L) (sk k H) j := by
      intro j
      induction j with
      | zero => intro _; rfl
      | succ j ih =>
        intro hj
        unfold rowG
        rw [ih (by omega)]
        have e : eK k j = j := by unfold eK; rw [if_pos (by omega)]
        unfold sk
        rw [e]
    exact this k (Nat.le_refl _)
  | m + 1 => by
    rw [show k + (m + 1) = (k + m) + 1 from rfl]
    conv => lhs; rhs; unfold rowG
    rw [← List.append_assoc, rowG_cat X L H k m]
    conv => rhs; unfold rowG
    have e : eK k (k + m) = k + 1 + m := by unfold eK; rw [if_neg (by omega)]; omega
    unfold sk
    rw [e]
/-- cells of gates in memory as a source -/
theorem gates_src {w : World} {b off i m : Nat} {X L H : Nat → Int} (h : ∀ j, j < m → w.cell? ⟨b, off + (i + j) * 3, none⟩ = some (.int .i64 (X (i + j))) ∧ w.cell? ⟨b, off + (i + j) * 3 + 1, none⟩ = some (.int .i64 (L (i + j))) ∧ w.cell? ⟨b, off + (i + j) * 3 + 2, none⟩ = some (.int .i64 (H (i + j)))) :
    App.Src w 3 (some ⟨b, off + i * 3, none⟩) m (rowG (fun t => X (i + t)) (fun t => L (i + t)) (fun t => H (i + t)) m) := by
  refine ⟨rowG_len _ _ _ _, fun _ => ⟨_, rfl, fun j u hu => ?_⟩⟩
  have hj : j < m * 3 := by
    rcases Nat.lt_or_ge j (m * 3) with k | k
    · exact k
    · rw [List.getElem?_eq_none (by rw [rowG_len]; exact k)] at hu; cases hu
  have e : (⟨b, off + i * 3, none⟩ : Addr).add j = ⟨b, off + i * 3 + j, none⟩ := by unfold Addr.add; split <;> simp_all
  rw [e]
  obtain ⟨q, r, hr, hq⟩ : ∃ q r, r < 3 ∧ j = q * 3 + r := ⟨j / 3, j % 3, by omega, by omega⟩
  obtain ⟨c1, c2, c3⟩ := h q (by omega)
  obtain ⟨g1, g2, g3⟩ := rowG_get (fun t => X (i + t)) (fun t => L (i + t)) (fun t => H (i + t)) m q (by omega)
  have ea : off + i * 3 + j = off + (i + q) * 3 + r := by omega
  rw [ea]
  match r, hr, hq with
  | 0, _, hq =>
    rw [hq, Nat.add_zero, g1] at hu
    rw [Nat.add_zero, c1]
    exact hu
  | 1, _, hq =>
    rw [hq, g2] at hu
    rw [c2]
    exact hu
  | 2, _, hq =>
    rw [hq, g3] at hu
    rw [c3]
    exact hu
theorem rowG_one (X L H : Nat → Int) : ∀ n, ∀ u ∈ rowG X L H n, u.oneCell' = true
  | 0 => fun _ h => by simp [rowG] at h
  | n + 1 => fun u h => by
    unfold rowG at h
    rcases List.mem_append.1 h with h | h
    · exact rowG_one X L H n u h
    · exact three_one _ _ _ u h
end Go.Proofs.Ytjjhdigbgmbmnaa.Skw
