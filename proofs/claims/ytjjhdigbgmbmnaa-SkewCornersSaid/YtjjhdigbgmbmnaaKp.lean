/- Worlds that are alike below a bound, but for some blocks. -/
import Derived.Test.YtjjhdigbgmbmnaaAid
import Derived.Laws.AppendOwn
namespace Go.Proofs.Ytjjhdigbgmbmnaa.Aid
open Go.RowKit
/-- w' is as w below B, but for the blocks of S -/
structure Kp (S : Nat → Prop) (B : Nat) (w w' : World) : Prop where
  os : w'.os = w.os
  tape : w'.tape = w.tape
  output : w'.output = w.output
  size : w.heap.size ≤ w'.heap.size
  block : ∀ k, k < B → ¬ S k → w'.heap[k]? = w.heap[k]?
theorem Kp.refl (S : Nat → Prop) (B : Nat) (w : World) : Kp S B w w := ⟨rfl, rfl, rfl, Nat.le_refl _, fun _ _ _ => rfl⟩
theorem Kp.trans {S : Nat → Prop} {B : Nat} {a b c : World} (h : Kp S B a b) (k : Kp S B b c) : Kp S B a c :=
  ⟨k.os.trans h.os, k.tape.trans h.tape, k.output.trans h.output, Nat.le_trans h.size k.size, fun i hi hs => (k.block i hi hs).trans (h.block i hi hs)⟩
theorem Kp.sub {S T : Nat → Prop} {B : Nat} {a b : World} (h : Kp S B a b) (hs : ∀ k, S k → T k) : Kp T B a b :=
  ⟨h.os, h.tape, h.output, h.size, fun i hi ht => h.block i hi fun q => ht (hs i q)⟩
theorem Kp.drewN {S : Nat → Prop} {B : Nat} {a b : World} (h : Kp S B a b) (n : Nat) : Kp S B a (b.drewN n) := ⟨h.os, h.tape, h.output, h.size, h.block⟩
theorem Kp.drew {S : Nat → Prop} {B : Nat} {a b : World} (h : Kp S B a b) : Kp S B a b.drew := ⟨h.os, h.tape, h.output, h.size, h.block⟩
theorem Kp.setCell {S : Nat → Prop} {B : Nat} {a b : World} (h : Kp S B a b) {p : Addr} (hp : S p.block ∨ B ≤ p.block) (u : Value) : Kp S B a (b.setCell p u) :=
  ⟨h.os, h.tape, h.output, by simpa [World.setCell] using h.size, fun i hi hs => (Below.heap_setCell b p u i (by rintro rfl; rcases hp with q | q; exact hs q; omega)).trans (h.block i hi hs)⟩
theorem Kp.alloc {S : Nat → Prop} {B : Nat} {a b : World} (h : Kp S B a b) (hB : B ≤ b.heap.size) (o : Obj) : Kp S B a (b.alloc o) :=
  ⟨h.os, h.tape, h.output, Nat.le_trans h.size (by simp), fun i hi hs => (heap_alloc_old b o (by omega)).trans (h.block i hi hs)⟩
theorem Kp.grown {S : Nat → Prop} {B : Nat} {a b c : World} {row : Option Nat} (h : Kp S B a b) (k : b.grownBy c row) (hB : B ≤ b.heap.size) (hr : ∀ g, row = some g → S g ∨ B ≤ g) : Kp S B a c :=
  ⟨k.os.trans h.os, k.tape.trans h.tape, k.output.trans h.output, Nat.le_trans h.size k.size, fun i hi hs => (k.block i (by omega) (fun e => by rcases hr i e.symm with q | q; exact hs q; omega)).trans (h.block i hi hs)⟩
theorem Kp.below {S : Nat → Prop} {B : Nat} {a b : World} (h : Kp S B a b) (hs : ∀ k, S k → a.heap.size ≤ k) (hB : a.heap.size ≤ B) : Below a.heap.size a b :=
  ⟨h.os, h.tape, h.output, h.size, fun i hi => h.block i (by omega) (fun q => by have := hs i q; omega)⟩
theorem Kp.cell {S : Nat → Prop} {B : Nat} {a b : World} (h : Kp S B a b) {k o : Nat} (hk : k < B) (hs : ¬ S k) : b.cell? ⟨k, o, none⟩ = a.cell? ⟨k, o, none⟩ := World.cell?_of_block (h.block k hk hs)
theorem Kp.base {S : Nat → Prop} {B B' : Nat} {a b : World} (h : Kp S B a b) (hB : B' ≤ B) : Kp S B' a b := ⟨h.os, h.tape, h.output, h.size, fun i hi hs => h.block i (by omega) hs⟩
theorem kp_fin {S : Nat → Prop} {a b c : World} (h : Below a.heap.size a b) (k : Kp S b.heap.size b c) (hs : ∀ q, S q → a.heap.size ≤ q) : Below a.heap.size a c :=
  ⟨k.os.trans h.os, k.tape.trans h.tape, k.output.trans h.output, Nat.le_trans h.size k.size, fun i hi => (k.block i (by have := h.size; omega) (fun q => by have := hs i q; omega)).trans (h.block i hi)⟩
theorem Kp.step {S : Nat → Prop} {B : Nat} {a b c : World} (h : Kp S B a b) (hb : Below b.heap.size b c) (hB : B ≤ b.heap.size) : Kp S B a c :=
  h.grown (row := none) ⟨hb.os, hb.tape, hb.output, hb.size, fun k hk _ => hb.block k hk⟩ hB (fun g q => by cases q)
end Go.Proofs.Ytjjhdigbgmbmnaa.Aid
