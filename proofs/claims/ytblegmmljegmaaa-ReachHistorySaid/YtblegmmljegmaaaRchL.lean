/- Plain law of ReachHistory. -/
import Derived.Test.YtblegmmljegmaaaRchJ
import Derived.Deep.Grids
namespace Go.Proofs.Ytblegmmljegmaaa.Rch
open Go.RowKit Aid
def hist (P : Nat → Bool) : Nat → Int
  | 0 => 0
  | i + 1 => hist P i * 2 % 256 + (if P i = true then 1 else 0)
theorem hist_bd (P : Nat → Bool) (i : Nat) : 0 ≤ hist P i ∧ hist P i ≤ 255 := by
  cases i with
  | zero => simp [hist]
  | succ i => unfold hist; split <;> omega
theorem bit_low : ∀ n : Fin 256, ∀ h : Bool, bitB ((n.val : Int) * 2 % 256 + (if h = true then 1 else 0)) 0 = h := by decide +kernel
theorem bit_up : ∀ n : Fin 256, ∀ h : Bool, ∀ k : Fin 7, bitB ((n.val : Int) * 2 % 256 + (if h = true then 1 else 0)) (k.val + 1) = bitB (n.val : Int) k.val := by decide +kernel
theorem bit_zero : ∀ k : Fin 8, bitB 0 k.val = false := by decide +kernel
theorem heard_pos : ∀ n : Fin 256, decide (0 < heardN (n.val : Int)) = ((n.val : Int) != 0) := by decide +kernel
theorem heard_pos' {b : Int} (h1 : 0 ≤ b) (h2 : b ≤ 255) : decide (0 < heardN b) = (b != 0) := by
  have := heard_pos ⟨b.toNat, by omega⟩
  rwa [show ((b.toNat : Nat) : Int) = b by omega] at this
theorem hist_bit (P : Nat → Bool) : ∀ (k i : Nat), k < 8 → bitB (hist P (i + 1)) k = (decide (k ≤ i) && P (i - k)) := by
  intro k
  induction k with
  | zero =>
    intro i _
    obtain ⟨h1, h2⟩ := hist_bd P i
    have := bit_low ⟨(hist P i).toNat, by omega⟩ (P i)
    rw [show (((hist P i).toNat : Nat) : Int) = hist P i by omega] at this
    show bitB (hist P i * 2 % 256 + _) 0 = _
    rw [this]; simp
  | succ k ih =>
    intro i hk
    obtain ⟨h1, h2⟩ := hist_bd P i
    have := bit_up ⟨(hist P i).toNat, by omega⟩ (P i) ⟨k, by omega⟩
    rw [show (((hist P i).toNat : Nat) : Int) = hist P i by omega] at this
    show bitB (hist P i * 2 % 256 + _) (k + 1) = _
    rw [this]
    cases i with
    | zero =>
      have z := bit_zero ⟨k, by omega⟩
      show bitB 0 k = _
      rw [z]; simp
    | succ j =>
      rw [ih j (by omega), show j + 1 - (k + 1) = j - k by omega]
      congr 1
      simp
def upN (b : Int) : Nat → Int
  | 0 => 0
  | m + 1 => upN b m + (if bitB b (7 - m) = true then 1 else 0)
def upL (b : Int) : Nat → Int
  | 0 => 8
  | m + 1 => if bitB b (7 - m) = true then ((7 - m : Nat) : Int) else upL b m
theorem upN_8 (b : Int) : upN b 8 = (heardN b : Int) := by
  simp only [upN, heardN, cnt8, Nat.sub_zero, Nat.reduceSub]
  split <;> split <;> split <;> split <;> split <;> split <;> split <;> split <;> rfl
theorem upL_8 (b : Int) : upL b 8 = (lostN b : Int) := by
  simp only [upL, lostN, Nat.sub_zero, Nat.reduceSub]
  split
  · rfl
  split
  · rfl
  split
  · rfl
  split
  · rfl
  split
  · rfl
  split
  · rfl
  split
  · rfl
  split <;> rfl
theorem upN_bd (b : Int) (m : Nat) : 0 ≤ upN b m ∧ upN b m ≤ m := by
  induction m with
  | zero => simp [upN]
  | succ m ih => unfold upN; split <;> omega
def BoolAt (w : World) (a : Option Addr) (n : Nat) (P : Nat → Bool) : Prop :=
  n ≤ 9223372036854775807 ∧ (0 < n → ∃ b off, a = some ⟨b, off, none⟩ ∧ b < w.heap.size ∧ ∀ i, i < n → w.cell? ⟨b, off + i, none⟩ = some (.bool (P i)))
theorem open_polls {H : Type} {enc : TypeId × Value → H} {w : World} {base : Nat} {held : Bool} {r : Reach} {b0 : Nat} {v : Value} {d : DataW H} {p : List MemPlace}
    (hv : Value.okWide Try.prog w r b0 31 v) (h : DataW.Trod enc Try.prog w base (fun _ => true) held 31 v d p) :
    ∃ (a : Option Addr) (n cap : Nat) (P : Nat → Bool), v = .slice a n cap ∧ n ≤ cap ∧ cap ≤ 9223372036854775807 ∧ (a = none → cap = 0) ∧ BoolAt w a n P := by
  obtain ⟨a0, n0, c0, rfl⟩ := Go.WideShapes.okWide_slice Try.underlying31 hv
  obtain ⟨fuel, hf⟩ := h
  rcases Go.Deep.open_bools Try.underlying31 Try.underlying4 (by kernel_rfl) hf with ⟨e, _⟩ | ⟨a, len, cap, P, e, _, hl, hm, _, hc⟩
  · simp [Value.cells] at e
    obtain ⟨rfl, rfl, rfl⟩ := e
    exact ⟨none, 0, 0, fun _ => false, rfl, by omega, by omega, (fun _ => rfl), by omega, (fun h => by omega)⟩
  · simp [Value.cells] at e
    obtain ⟨rfl, rfl, rfl⟩ := e
    unfold maxLen at hm
    refine ⟨some a, n0, c0, P, rfl, hl, by omega, (fun h => by cases h), by omega, fun h0 => ?_⟩
    have hs := World.cell?_spot (hc 0 (by omega))
    have hbk := World.block_lt_of_cell? w _ (hc 0 (by omega))
    obtain ⟨b, off, spot⟩ := a
    have e2 : ∀ o, spot = none → (⟨b, off, spot⟩ : Addr).add o = ⟨b, off + o, none⟩ := by
      intro o hs; subst hs; unfold Addr.add; split <;> simp_all
    have hsp : spot = none := by
      have : ((⟨b, off, spot⟩ : Addr).add 0).spot = none := hs
      simpa [Addr.add] using this
    rw [e2 _ hsp] at hbk
    subst hsp
    exact ⟨b, off, rfl, hbk, fun i hi => by have := hc i (by omega); rwa [e2 _ rfl] at this⟩
end Go.Proofs.Ytblegmmljegmaaa.Rch
