/- The contract of osc.spans (layer 9). -/
import Derived.Test.YtcfmjoadbamdiaaOscE
namespace Go.Proofs.Ytcfmjoadbamdiaa.OscW
open Go.RowKit OscP Aid

theorem info_span : (Try.prog.info? 44).map (fun i => (i.zero, i.size, i.bytes)) = some (some (.agg #[.int .i64 0, .int .i64 0, .int .i64 0]), 3, 24) := by kernel_rfl

/-- what the loop knows of the row that it fills -/
def Filled (w : World) (g n k : Nat) (A P E : Nat → Int) : Prop :=
  ∃ cur : Array Value, w.heap[g]? = some (.cells cur 44 (0, 0)) ∧ cur.size = n * 3 ∧
    ∀ i, i < k → cur[i * 3]? = some (.int .i64 (A i)) ∧ cur[i * 3 + 1]? = some (.int .i64 (P i)) ∧ cur[i * 3 + 2]? = some (.int .i64 (E i))

theorem set_block {w : World} {g : Nat} {t : TypeId} {cs : Array Value} (h : w.heap[g]? = some (.cells cs t (0, 0))) (i : Nat) (u : Value) : (w.setCell ⟨g, i, none⟩ u).heap[g]? = some (.cells (cs.setIfInBounds i u) t (0, 0)) := by
  simp [World.setCell, Array.getElem?_modify, h]
theorem Filled.room {w : World} {g n k j : Nat} {A P E : Nat → Int} (h : Filled w g n k A P E) (hj : j < n) :
    ∃ v0 v1 v2, w.cell? ⟨g, j * 3, none⟩ = some v0 ∧ w.cell? ⟨g, j * 3 + 1, none⟩ = some v1 ∧ w.cell? ⟨g, j * 3 + 2, none⟩ = some v2 ∧
      w.frozen? ⟨g, j * 3, none⟩ = false ∧ w.frozen? ⟨g, j * 3 + 1, none⟩ = false ∧ w.frozen? ⟨g, j * 3 + 2, none⟩ = false := by
  obtain ⟨cur, hh, hs, _⟩ := h
  have c : ∀ o, o < n * 3 → ∃ v, w.cell? ⟨g, o, none⟩ = some v := fun o ho => ⟨cur[o], by rw [cell_of_row w g o cur _ _ hh, Array.getElem?_eq_getElem (by omega)]⟩
  have f : ∀ o, w.frozen? ⟨g, o, none⟩ = false := fun o => by simp [World.frozen?, hh]
  obtain ⟨v0, h0⟩ := c (j * 3) (by omega)
  obtain ⟨v1, h1⟩ := c (j * 3 + 1) (by omega)
  obtain ⟨v2, h2⟩ := c (j * 3 + 2) (by omega)
  exact ⟨v0, v1, v2, h0, h1, h2, f _, f _, f _⟩
theorem Filled.lt {w : World} {g n k : Nat} {A P E : Nat → Int} (h : Filled w g n k A P E) : g < w.heap.size := by
  obtain ⟨cur, hh, _⟩ := h
  rcases Nat.lt_or_ge g w.heap.size with hlt | hge
  · exact hlt
  · rw [Array.getElem?_eq_none hge] at hh; cases hh
theorem Filled.alloc {w : World} {g n k : Nat} {A P E : Nat → Int} {o : Obj} (h : Filled w g n k A P E) : Filled (w.alloc o) g n k A P E := by
  have hl := h.lt
  obtain ⟨cur, hh, hs⟩ := h
  exact ⟨cur, (Below.heap_alloc w o g hl).trans hh, hs⟩
theorem Filled.step {w : World} {g n k : Nat} {A P E : Nat → Int} (h : Filled w g n k A P E) (hk : k < n) :
    Filled (((w.setCell ⟨g, k * 3, none⟩ (.int .i64 (A k))).setCell ⟨g, k * 3 + 1, none⟩ (.int .i64 (P k))).setCell ⟨g, k * 3 + 2, none⟩ (.int .i64 (E k))) g n (k + 1) A P E := by
  obtain ⟨cur, hh, hs, hc⟩ := h
  refine ⟨_, set_block (set_block (set_block hh _ _) _ _) _ _, by simpa using hs, fun i hi => ?_⟩
  simp only [Array.getElem?_setIfInBounds, Array.size_setIfInBounds]
  rcases Nat.lt_or_ge i k with h | h
  · have := hc i h
    refine ⟨?_, ?_, ?_⟩ <;> repeat rw [if_neg (by omega)]
    · exact this.1
    · exact this.2.1
    · exact this.2.2
  · have : i = k := by omega
    subst this
    refine ⟨?_, ?_, ?_⟩
    · rw [if_neg (by omega), if_neg (by omega), if_pos rfl, if_pos (by omega)]
    · rw [if_neg (by omega), if_pos rfl, if_pos (by omega)]
    · rw [if_pos rfl, if_pos (by omega)]
theorem Filled.step' {w : World} {g n k : Nat} {A P E : Nat → Int} (h : Filled w g n k A P E) (hk : k < n) (x : Value) :
    Filled ((((w.setCell ⟨g, k * 3, none⟩ (.int .i64 (A k))).setCell ⟨g, k * 3 + 1, none⟩ (.int .i64 (P k))).setCell ⟨g, k * 3 + 2, none⟩ x).setCell ⟨g, k * 3 + 2, none⟩ (.int .i64 (E k))) g n (k + 1) A P E := by
  obtain ⟨cur, hh, hs, hc⟩ := h
  refine ⟨_, set_block (set_block (set_block (set_block hh _ _) _ _) _ _) _ _, by simpa using hs, fun i hi => ?_⟩
  simp only [Array.getElem?_setIfInBounds, Array.size_setIfInBounds]
  rcases Nat.lt_or_ge i k with h | h
  · have := hc i h
    refine ⟨?_, ?_, ?_⟩ <;> repeat rw [if_neg (by omega)]
    · exact this.1
    · exact this.2.1
    · exact this.2.2
  · have : i = k := by omega
    subst this
    refine ⟨?_, ?_, ?_⟩
    · rw [if_neg (by omega), if_neg (by omega), if_neg (by omega), if_pos rfl, if_pos (by omega)]
    · rw [if_neg (by omega), if_neg (by omega), if_pos rfl, if_pos (by omega)]
    · rw [if_pos rfl, if_pos (by omega)]
theorem Filled.spans {w : World} {g n : Nat} {A P E : Nat → Int} (h : Filled w g n n A P E) : SpansAt w g n A P E := by
  refine ⟨h.lt, fun i hi => ?_⟩
  obtain ⟨cur, hh, hs, hc⟩ := h
  have := hc i hi
  rw [cell_of_row w g _ cur _ _ hh, cell_of_row w g _ cur _ _ hh, cell_of_row w g _ cur _ _ hh]
  exact this
theorem ends_in {A : Nat → Int} {n k : Nat} (h : k + 1 < n) : A (k + 1) = ends A n k := by unfold ends; rw [if_pos h]
theorem ends_out {A : Nat → Int} {n k : Nat} (h : ¬ k + 1 < n) : (1125899906842624 : Int) = ends A n k := by unfold ends; rw [if_neg h]
theorem lt_last {ph : Int} {A P : Nat → Int} {n : Nat} (ok : Ok ph A P n) : ∀ {k : Nat}, k + 1 < n → A k < A (n - 1) := by
  have key : ∀ d k, k + 1 + d < n → A k < A (k + 1 + d) := by
    intro d
    induction d with
    | zero => intro k hk; exact ok.inc k hk
    | succ d ih => intro k hk; have := ih k (by omega); have := ok.inc (k + 1 + d) (by omega); rw [show k + 1 + (d + 1) = k + 1 + d + 1 by omega]; omega
  intro k hk
  have := key (n - 2 - k) k (by omega)
  rwa [show k + 1 + (n - 2 - k) = n - 1 by omega] at this
theorem make_facts {w w2 : World} {ph : Int} {b off n cap : Nat} {A P E : Nat → Int} {L : List Value} (hlt : b < w.heap.size) (hn1 : 1 ≤ n)
    (HC : ∀ i, i < n → w.cell? ⟨b, off + i * 2, none⟩ = some (.int .i64 (A i)) ∧ w.cell? ⟨b, off + i * 2 + 1, none⟩ = some (.int .i64 (P i)))
    (hown : w2.ownsRow (w.heap.size + 1) 44 3 (.slice (some ⟨w.heap.size + 1, 0, none⟩) n n) n L)
    (hg : (w.alloc (.cells #[.int .i64 ph, .slice (some { block := b, off := off }) n cap] 24)).grownBy w2 none) :
    w.heap.size + 1 < w2.heap.size ∧ Below (w.heap.size + 1) (w.alloc (.cells #[.int .i64 ph, .slice (some { block := b, off := off }) n cap] 24)) w2 ∧ Below w.heap.size w w2 ∧
    w2.cell? ⟨w.heap.size, 1, none⟩ = some (.slice (some ⟨b, off, none⟩) n cap) ∧ w2.cell? ⟨b, off + (n - 1) * 2, none⟩ = some (.int .i64 (A (n - 1))) ∧ w2.cell? ⟨b, off + (n - 1) * 2 + 1, none⟩ = some (.int .i64 (P (n - 1))) ∧
    Filled w2 (w.heap.size + 1) n 0 A P E := by
  have hB : Below (w.heap.size + 1) (w.alloc (.cells #[.int .i64 ph, .slice (some { block := b, off := off }) n cap] 24)) w2 := (Below.refl _ _).grown hg (by simp) (by simp)
  have hBw : Below w.heap.size w w2 := ((Below.refl _ _).alloc (Nat.le_refl _) _).trans (hB.mono (by omega))
  obtain ⟨l0, l1⟩ := HC (n - 1) (by omega)
  refine ⟨(hown.lt _ rfl).2, hB, hBw, (hB.cell (p := ⟨w.heap.size, 1, none⟩) (by simp)).trans (by simp [go_sem]), (hBw.cell (p := ⟨b, off + (n - 1) * 2, none⟩) hlt).trans l0,
    (hBw.cell (p := ⟨b, off + (n - 1) * 2 + 1, none⟩) hlt).trans l1, ?_⟩
  rcases hown.2 with ⟨h, _⟩ | ⟨g, cap', cur, h, _, hh, _, _, hsz, _⟩
  · cases h
  · injection h with h1 h2 h3
    injection h1 with h1
    injection h1 with h1
    subst h1 h3
    exact ⟨cur, hh, hsz, fun i hi => by omega⟩

set_option maxHeartbeats 1600000 in
theorem spans_any (ph : Int) (a : Option Addr) (n cap : Nat) (A P : Nat → Int) (w : World) (hr : SegsAt w a n A P) (ok : Ok ph A P n) :
    Calls Try.prog 22 #[.agg #[.int .i64 ph, .slice a n cap]] w fun e w' => ∃ g, e = .returned (.slice (some ⟨g, 0, none⟩) n n) ∧ SpansAt w' g n A P (ends A n) ∧ Below w.heap.size w w' := by
  have hn1 := ok.n1
  have hn16 := ok.n16
  obtain ⟨b, off, rfl, hlt, hc⟩ := hr.at_ hn1
  have HO := hide ok
  have HC := hide hc
  clear ok hc hr
  obtain ⟨i0, hi, hz0, hz1, hz2⟩ := info_parts info_span
  go_enter Try.func22, Try.ntmps22
  go_wp2_with (at_make; refine wpList_make_full _ rfl _ _ 38 rfl (w.heap.size + 1) 44 i0 _ 3 Try.underlying38 hi hz0 hz1 .i64 .i64 n n n rfl rfl rfl rfl (by rw [hz2]; omega) (by unfold maxLen; omega) (by simp) ?_; intro w2 hown hg; (obtain ⟨hs2, hB, hBw, hbx, hl0, hl1, hF⟩ := make_facts (E := ends A n) hlt hn1 HC.out (by simpa using hown) hg); clear hown hg; have hs2' := Nat.lt_of_succ_lt hs2; have hb2 := Nat.lt_trans hlt hs2')
  go_loopw [22] (fun i wr => ∃ k : Nat, k ≤ n ∧ i = .int .i64 k ∧ (w2.alloc (.cells #[.int .i64 (A (n - 1)), .int .i64 (P (n - 1))] 32)).grownBy wr (some (w.heap.size + 1)) ∧ Filled wr (w.heap.size + 1) n k A P (ends A n)) (fun i _ => n - (intOf i).toNat)
  case atStart => exact ⟨0, by omega, rfl, World.grownBy.refl _ _, hF.alloc⟩
  case round =>
    obtain ⟨k, hk, rfl, hg, hf⟩ := hrel
    have hsz := hg.size
    simp only [World.size_alloc] at hsz
    have hx := (only_cell hg (b := w.heap.size) (o := 1) (by simp; omega) (by omega)).trans ((World.cell?_alloc_lt w2 _ ⟨w.heap.size, 1, none⟩ hs2').trans hbx)
    have hL0 := (only_cell hg (b := w2.heap.size) (o := 0) (by simp) (by omega))
    have hL1 := (only_cell hg (b := w2.heap.size) (o := 1) (by simp) (by omega))
    simp [go_sem] at hL0 hL1
    have hg1 : w.heap.size + 1 < wr.heap.size := by omega
    have hg0 : w.heap.size < wr.heap.size := by omega
    have hg2 : w2.heap.size < wr.heap.size := by omega
    have HG := hide hg
    clear hg
    by_cases hlt' : k < n
    · obtain ⟨c0, c1⟩ := HC.out k hlt'
      have hbl : b < wr.heap.size := by omega
      have hc0 := (only_cell HG.out (b := b) (o := off + k * 2) (by simp; omega) (by omega)).trans ((World.cell?_alloc_lt w2 _ ⟨b, off + k * 2, none⟩ hb2).trans ((hBw.cell (p := ⟨b, off + k * 2, none⟩) hlt).trans c0))
      have hc1 := (only_cell HG.out (b := b) (o := off + k * 2 + 1) (by simp; omega) (by omega)).trans ((World.cell?_alloc_lt w2 _ ⟨b, off + k * 2 + 1, none⟩ hb2).trans ((hBw.cell (p := ⟨b, off + k * 2 + 1, none⟩) hlt).trans c1))
      obtain ⟨v0, v1, v2, hv0, hv1, hv2, hf0, hf1, hf2⟩ := hf.room hlt'
      have HF := hide hf
      clear hf c0 c1
      by_cases hl : k + 1 < n
      · obtain ⟨d0, _⟩ := HC.out (k + 1) hl
        have hd0 := (only_cell HG.out (b := b) (o := off + (k + 1) * 2) (by simp; omega) (by omega)).trans ((World.cell?_alloc_lt w2 _ ⟨b, off + (k + 1) * 2, none⟩ hb2).trans ((hBw.cell (p := ⟨b, off + (k + 1) * 2, none⟩) hlt).trans d0))
        have hne : (A k == A (n - 1)) = false := by have := lt_last HO.out hl; simp; omega
        clear d0
        go_wp2
        go_roundw
        case rel =>
          refine ⟨k + 1, by omega, by go_num, ?_, ?_⟩
          · exact only_alloc (only_setCell (only_setCell (only_setCell (only_setCell HG.out (.inl rfl) _) (.inl rfl) _) (.inl rfl) _) (.inl rfl) _) _
          · rw [ends_in (A := A) hl]
            exact (HF.out.step' hlt' _).alloc
        case measure => simp [intOf]; omega
      · have en : n - 1 = k := by omega
        rw [en] at hL0 hL1
        clear en
        go_wp2
        go_roundw
        case rel =>
          refine ⟨k + 1, by omega, by go_num, ?_, ?_⟩
          · exact only_alloc (only_setCell (only_setCell (only_setCell HG.out (.inl rfl) _) (.inl rfl) _) (.inl rfl) _) _
          · rw [ends_out (A := A) hl]
            exact (HF.out.step hlt').alloc
        case measure => simp [intOf]; omega
    · go_wp2
      go_ret
      have e : k = n := by omega
      rw [e] at hf
      exact ⟨_, rfl, hf.spans, below_only (hBw.alloc (by omega) _) HG.out (by simp; omega) (by omega)⟩
end Go.Proofs.Ytcfmjoadbamdiaa.OscW
