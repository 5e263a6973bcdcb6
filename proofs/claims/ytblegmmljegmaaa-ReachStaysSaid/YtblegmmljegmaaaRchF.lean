/- The walk of answered. -/
import Derived.Test.YtblegmmljegmaaaRchE
import Derived.StillTailTactics
namespace Go.Proofs.Ytblegmmljegmaaa.Rch
open Go.RowKit Go.Maps Aid
theorem bits_all : ∀ n : Fin 256, ∀ k : Fin 8, Go.bits BinOp.and IntKind.i64 (n.val : Int) (IntKind.i64.wrap (2 ^ k.val)) = bitv (n.val : Int) k.val ∧ 0 ≤ bitv (n.val : Int) k.val ∧ bitv (n.val : Int) k.val ≤ 128 := by decide +kernel
theorem bits_and {b : Int} {k : Nat} (h1 : 0 ≤ b) (h2 : b ≤ 255) (hk : k < 8) : Go.bits BinOp.and IntKind.i64 b (IntKind.i64.wrap (2 ^ k)) = bitv b k ∧ 0 ≤ bitv b k ∧ bitv b k ≤ 128 := by
  have := bits_all ⟨b.toNat, by omega⟩ ⟨k, hk⟩
  rwa [show ((b.toNat : Nat) : Int) = b by omega] at this
theorem fill_start (b : Int) : FillD b 0 (.map [] : DU) := ⟨⟨[], rfl, List.Pairwise.nil⟩, fun kl => ⟨fun h => by simp [Maps.has] at h, fun ⟨j, hj, _⟩ => by omega⟩, fun j hj => by omega⟩
set_option maxRecDepth 100000 in
set_option maxHeartbeats 3200000 in
theorem answered_any (bits poll mn mx cnt : Int) (h1 : 0 ≤ bits) (h2 : bits ≤ 255) (w : World) :
    Calls Try.prog 31 #[.agg #[.int .i64 bits, .int .i64 poll, .int .i64 mn, .int .i64 mx, .int .i64 cnt]] w fun e w' => ∃ D : DU, e = .returned (.map (some (w.heap.size + 1))) ∧ w'.ownsMap Try.prog 3 (plainElem Try.prog 3) (w.heap.size + 1) 8 D ∧ StripD bits 8 D ∧ Below w.heap.size w w' := by
  have hmm := @run_makeMap Try.prog
  have F0 := hide (fill_start bits)
  go_enter Try.func31, Try.ntmps31
  go_wp2
  go_loopw [7] (fun i wr => ∃ k : Nat, ∃ D : DU, k ≤ 8 ∧ i = .int .i64 k ∧ wr.ownsMap Try.prog 3 (plainElem Try.prog 3) (w.heap.size + 1) k D ∧ FillD bits k D ∧ Below (w.heap.size + 1) (w.alloc (.cells #[.int .i64 bits, .int .i64 poll, .int .i64 mn, .int .i64 mx, .int .i64 cnt] 23)) wr)
    (fun i _ => 8 - (intOf i).toNat)
  case atStart => exact ⟨0, _, Nat.zero_le _, rfl, by simpa using World.ownsMap_made (w.alloc (.cells #[.int .i64 bits, .int .i64 poll, .int .i64 mn, .int .i64 mx, .int .i64 cnt] 23)) Try.prog 3 (plainElem Try.prog 3), F0.out, (Below.refl _ _).alloc (by simp) _⟩
  case round =>
    obtain ⟨k, D, hk, rfl, hown, hf, hnx⟩ := hrel
    by_cases hlt : k < 8
    · have c0 : wr.cell? ⟨w.heap.size, 0, none⟩ = some (.int .i64 bits) := (hnx.cell (p := ⟨w.heap.size, 0, none⟩) (by simp)).trans (by simp [go_sem])
      have hkey : keyOf Try.prog 3 (.int .i64 (k : Int)) = some (.int .i64 (k : Int)) := keyOf_int_mk und3 (WalkArith.wf_i64 (by omega))
      go_wp2
      refine wp_region_still_tail 7 (by kernel_rfl) (by kernel_rfl) ?_
      change wpStill _ _ wr.drew _ _ _
      simp only [List.take_succ_cons, List.take_zero, List.drop_succ_cons, List.drop_zero]
      repeat still_step
      refine wpStill_nil ?_
      change wpList _ _ _ _ _ wr.drew
      obtain ⟨eb, g1, g2⟩ := bits_and h1 h2 hlt
      rw [eb]
      refine wpList_mapUpdate_own _ rfl _ _ _ 45 rfl 3 3 law3 und45 _ (w.heap.size + 1) k _ rfl hown.drew (by unfold maxLen; omega) _ _ _ rfl rfl hkey _ [] (plainElem_int und3 (WalkArith.wf_i64 (by omega))) ?_
      intro w1 hown1 hg1
      have hf1 := fill_step hf (hown1.tidy law3)
      have hnx1 := (Below.drew hnx).grown hg1 (by have := hnx.size; simpa using this) (fun j hj => by cases hj; simp)
      clear hown hf hnx hmm
      go_wp2
      go_roundw
      case rel => exact ⟨k + 1, _, by omega, by go_num, hown1, hf1, hnx1⟩
      case measure => simp [intOf]; omega
    · have : k = 8 := by omega
      subst this
      clear hmm F0
      rw [show ((8 : Nat) : Int) = 8 from rfl]
      go_wp2
      go_loopw [18] (fun i wr => ∃ k : Nat, ∃ D : DU, k ≤ 8 ∧ i = .int .i64 k ∧ wr.ownsMap Try.prog 3 (plainElem Try.prog 3) (w.heap.size + 1) 8 D ∧ StripD bits k D ∧ Below (w.heap.size + 1) (w.alloc (.cells #[.int .i64 bits, .int .i64 poll, .int .i64 mn, .int .i64 mx, .int .i64 cnt] 23)) wr)
        (fun i _ => 8 - (intOf i).toNat)
      case atStart => exact ⟨0, _, Nat.zero_le _, rfl, hown, strip_start hf, hnx⟩
      case round =>
        clear hown hf hnx
        obtain ⟨k, D, hk, rfl, hown, hf, hnx⟩ := hrel
        by_cases hlt : k < 8
        · have hkey : keyOf Try.prog 3 (.int .i64 (k : Int)) = some (.int .i64 (k : Int)) := keyOf_int_mk und3 (WalkArith.wf_i64 (by omega))
          have e0 := hf.at_ k hlt (fun h => by omega)
          by_cases hbz : bitv bits k = 0
          · rw [hbz] at e0
            go_wp2_with (first
              | (at_lookup; refine wpList_lookup_own_int _ rfl _ _ 45 rfl 3 3 .i64 law3 und45 und3 (zero3 _) (w.heap.size + 1) 8 _ rfl hown _ _ rfl hkey ?_; intro c hat hwc; have ec : c = 0 := (by have := (e0 _).symm.trans hat; injection this with this; injection this with _ this; exact this.symm); subst ec; clear hat)
              | (at_delete; refine wpList_delete_own _ rfl _ _ 45 3 rfl 3 law3 und45 _ (w.heap.size + 1) 8 _ rfl hown _ _ rfl hkey ?_; intro w1 hown1 hturn1; go_frame)
              | go_in)
            have hf1 := strip_drop hf hbz (hown1.tidy law3)
            have hnx1 := hnx.grown hturn1.grown (by have := hnx.size; simpa using this) (fun j hj => by cases hj; simp)
            clear hown hf hnx
            go_roundw
            case rel => exact ⟨k + 1, _, by omega, by go_num, hown1, hf1, hnx1⟩
            case measure => simp [intOf]; omega
          · generalize hv : bitv bits k = v at e0 hbz
            have hbz' : (v == 0) = false := by simpa using hbz
            go_wp2_with (first
              | (at_lookup; refine wpList_lookup_own_int _ rfl _ _ 45 rfl 3 3 .i64 law3 und45 und3 (zero3 _) (w.heap.size + 1) 8 _ rfl hown _ _ rfl hkey ?_; intro c hat hwc; have ec : c = v := (by have := (e0 _).symm.trans hat; injection this with this; injection this with _ this; exact this.symm); subst ec; clear hat)
              | go_in)
            have hf1 := strip_keep hf (by rw [hv]; exact hbz)
            go_roundw
            case rel => exact ⟨k + 1, _, by omega, by go_num, hown, hf1, hnx⟩
            case measure => simp [intOf]; omega
        · have : k = 8 := by omega
          subst this
          go_wp2
          go_ret
          exact ⟨_, rfl, hown, hf, ((Below.refl _ _).alloc (Nat.le_refl _) _).trans (hnx.mono (by simp))⟩
end Go.Proofs.Ytblegmmljegmaaa.Rch
