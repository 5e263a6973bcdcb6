/- Layer 5: numbers out of digits: number of the reference. -/
import Derived.Test.YtbhpceghgjognaaDoorCivL
import Derived.Lib.ConvBytes
namespace Go.Proofs.YtbhpceghgjognaaDoor.Civ
open Go.RowKit Aid
def byt (s : ByteArray) (k : Nat) : Nat := if h : k < s.size then (s[k]'h).toNat else 0
theorem byt_at {s : ByteArray} {k : Nat} (h : k < s.size) : (s[k]'h).toNat = byt s k := by unfold byt; rw [dif_pos h]
/-- the number that the k bytes from a on spell -/
def valT (s : ByteArray) (a : Nat) : Nat → Nat
  | 0 => 0
  | k + 1 => 10 * valT s a k + (byt s (a + k) - 48)
def Digs (s : ByteArray) (a n : Nat) : Prop := ∀ k, k < n → 48 ≤ byt s (a + k) ∧ byt s (a + k) ≤ 57
theorem valT_lt {s : ByteArray} {a : Nat} : ∀ {n : Nat}, Digs s a n → valT s a n < 10 ^ n := by
  intro n
  induction n with
  | zero => intro _; simp [valT]
  | succ n ih =>
    intro h
    have := ih (fun k hk => h k (by omega))
    have := h n (by omega)
    show 10 * valT s a n + (byt s (a + n) - 48) < 10 ^ (n + 1)
    rw [Nat.pow_succ]
    omega
theorem pow_9 {k : Nat} (h : k ≤ 9) : 10 ^ k ≤ 1000000000 := Nat.pow_le_pow_right (n := 10) (by omega) h
set_option maxRecDepth 100000 in
set_option maxHeartbeats 1600000 in
theorem number_any (t : ByteArray) (w : World) (h9 : t.size ≤ 9) (hd : Digs t 0 t.size) :
    Calls Tryd.prog 36 #[.string t] w fun e w' => e = .returned (.int .i64 (valT t 0 t.size : Nat)) ∧ w = w' := by
  obtain ⟨n, hn⟩ : ∃ n, t.size = n := ⟨_, rfl⟩
  have HD := hide hd
  clear hd
  have hn9 : n ≤ 9 := by omega
  have HN := hide hn
  go_enter Tryd.func36, Tryd.ntmps36
  go_wp2
  go_loopw [3, 4] (fun a i wr => ∃ k : Nat, k ≤ n ∧ i = .int .i64 k ∧ a = .int .i64 (valT t 0 k : Nat) ∧ w = wr) (fun _ i _ => n - (intOf i).toNat)
  case atStart => exact ⟨0, by omega, rfl, rfl, rfl⟩
  case round =>
    obtain ⟨k, hk, rfl, rfl, rfl⟩ := hrel
    by_cases hlt : k < n
    · have hkt : k < t.size := by omega
      have dg := HD.out k hkt
      rw [Nat.zero_add] at dg
      have vb := valT_lt (s := t) (a := 0) (n := k) (fun j hj => HD.out j (by omega))
      have p9 := pow_9 (k := k) (by omega)
      have vb2 : valT t 0 k < 1000000000 := by omega
      have e1 : valT t 0 (k + 1) = 10 * valT t 0 k + (byt t k - 48) := by
        show 10 * valT t 0 k + (byt t (0 + k) - 48) = _
        rw [Nat.zero_add]
      have HE := hide e1
      have hb := byt_at hkt
      obtain ⟨d1, d2⟩ := dg
      generalize valT t 0 k = v at *
      generalize byt t k = c at *
      have t1 : IntKind.u8.wrap ((c : Int) - 48) = (c : Int) - 48 := by rw [IntKind.wrap_u8]; omega
      clear e1 vb p9
      go_wp2
      go_roundw
      case rel => exact ⟨k + 1, by omega, by go_num, by rw [HE.out]; congr 1; omega, by first | rfl | trivial⟩
      case measure => (simp [intOf]) <;> omega
    · obtain rfl : k = n := by omega
      go_wp2
      go_ret
      exact ⟨by rw [HN.out]; rfl, rfl⟩
theorem byt_list {t : ByteArray} {j : Nat} (h : j < t.size) : (t.data.toList.getD j 0).toNat = byt t j := by
  unfold byt
  rw [dif_pos h]
  have h2 : j < t.data.toList.length := by simpa using h
  rw [List.getD_eq_getElem?_getD, List.getElem?_eq_getElem h2]
  simp [ByteArray.getElem_eq_getElem_data]
theorem size_cut {s : ByteArray} {a n : Nat} (h : a + n ≤ s.size) : (s.extract a (a + n)).size = n := by
  rw [ByteArray.size_extract]; omega
theorem byt_cut {s : ByteArray} {a n j : Nat} (h : a + n ≤ s.size) (hj : j < n) : byt (s.extract a (a + n)) j = byt s (a + j) := by
  unfold byt
  rw [dif_pos (by rw [size_cut h]; exact hj), dif_pos (by omega)]
  congr 1
  simp [ByteArray.getElem_eq_getElem_data, ByteArray.data_extract]
theorem valT_cut {s : ByteArray} {a n : Nat} (h : a + n ≤ s.size) : ∀ k, k ≤ n → valT (s.extract a (a + n)) 0 k = valT s a k := by
  intro k
  induction k with
  | zero => intro _; rfl
  | succ k ih =>
    intro hk
    show 10 * valT (s.extract a (a + n)) 0 k + (byt (s.extract a (a + n)) (0 + k) - 48) = 10 * valT s a k + (byt s (a + k) - 48)
    rw [ih (by omega), Nat.zero_add, byt_cut h (by omega)]
theorem digs_cut {s : ByteArray} {a n : Nat} (h : a + n ≤ s.size) (hd : Digs s a n) : Digs (s.extract a (a + n)) 0 n := by
  intro k hk
  rw [Nat.zero_add, byt_cut h hk]
  exact hd k hk
theorem conv_any (w : World) (t : ByteArray) : ∃ (W1 : World) (cap : Nat), (convert 9 44 (.string t)).run Tryd.prog w = .ok (.slice (some ⟨w.heap.size, 0, none⟩) t.size cap) W1 ∧ (∀ j, j < t.size → W1.cell? ⟨w.heap.size, j, none⟩ = some (.int .u8 (byt t j))) ∧ Below w.heap.size w W1 :=
  ⟨_, _, Lib.run_convert_string_bytes w 9 44 5 t Tryd.underlying9 Tryd.underlying44 Tryd.underlying5, fun j hj => by rw [Lib.bytesWorld_cell w 5 t j hj, byt_list hj],
    ⟨rfl, rfl, rfl, by rw [Lib.bytesWorld_size]; omega, fun i hi => Lib.bytesWorld_at_old w 5 t i hi⟩⟩
set_option maxRecDepth 100000 in
set_option maxHeartbeats 1600000 in
theorem field_any (s : ByteArray) (a n e : Nat) (b : Nat) (w : World) (he : e = a + n) (h9 : n ≤ 9) (hs : e ≤ s.size) (hs2 : s.size = 30) (hd : Digs s a n) (hc : w.cell? ⟨b, 0, none⟩ = some (.string s)) :
    Calls Tryd.prog 35 #[.int .i64 a, .int .i64 e, .pointer (some ⟨b, 0, none⟩)] w fun e w' => e = .returned (.int .i64 (valT s a n : Nat)) ∧ Below w.heap.size w w' := by
  obtain ⟨W1, cap, hcv, hcell, hbel⟩ := conv_any w (s.extract a e)
  have hsz : (s.extract a e).size = n := by subst he; exact size_cut hs
  rw [hsz] at hcv hcell
  have hcell2 : ∀ j, j < n → W1.cell? ⟨w.heap.size, j, none⟩ = some (.int .u8 (byt s (a + j))) := fun j hj => by
    rw [hcell j hj]; subst he; rw [byt_cut hs hj]
  have HB := hide hbel
  have HC := hide hcell2
  have HD := hide hd
  have hae : a ≤ e := by omega
  clear hcell hcell2 hbel hd hsz he
  go_enter Tryd.func35, Tryd.ntmps35
  go_wp2
  go_loopw [6, 15] (fun x i wr => ∃ k : Nat, k ≤ n ∧ i = .int .i64 k ∧ x = .int .i64 (valT s a k : Nat) ∧ W1 = wr) (fun _ i _ => n - (intOf i).toNat)
  case atStart => exact ⟨0, by omega, rfl, rfl, rfl⟩
  case round =>
    obtain ⟨k, hk, rfl, rfl, rfl⟩ := hrel
    by_cases hlt : k < n
    · have kc := HC.out k hlt
      obtain ⟨d1, d2⟩ := HD.out k hlt
      have vb := valT_lt (s := s) (a := a) (n := k) (fun j hj => HD.out j (by omega))
      have p9 := pow_9 (k := k) (by omega)
      have vb2 : valT s a k < 1000000000 := by omega
      have e1 : valT s a (k + 1) = 10 * valT s a k + (byt s (a + k) - 48) := rfl
      have HE := hide e1
      generalize valT s a k = v at *
      generalize byt s (a + k) = c at *
      have t1 : IntKind.u8.wrap ((c : Int) - 48) = (c : Int) - 48 := by rw [IntKind.wrap_u8]; omega
      clear e1 vb p9
      go_wp2
      go_roundw
      case rel => exact ⟨k + 1, by omega, by go_num, by rw [HE.out]; congr 1; omega, by first | rfl | trivial⟩
      case measure => (simp [intOf]) <;> omega
    · obtain rfl : k = n := by omega
      go_wp2
      go_ret
      exact ⟨rfl, HB.out⟩
end Go.Proofs.YtbhpceghgjognaaDoor.Civ
