/- An append at a step of a region that draws, said of what the frame holds: all side conditions can be closed behind the law. -/
import Derived.Test.YtcfmjoadbamdiaaSplitL
namespace Go.Proofs.Ytcfmjoadbamdiaa.App
open Go.RowKit Aid
section
variable {P : Program}
theorem step_app2 (w : World) {ops : Array Oper} {o : Oper} {a : Act} {K : Act → World → Prop} {Q : Exit → Act → World → Prop} {E : Prop} (hgd : o.guard = none) (s x : Operand) (t : TypeId)
    (ho : o.op = .call { callee := .builtin .append, args := #[s, x], argTypes := #[t, t] })
    (base : Nat) (e : TypeId) (i : TypeInfo) (z : Value) (size bytes : Nat) (ht : P.underlying t = some (.slice e)) (hi : P.info? e = some i) (hz : i.zero = some z)
    (hsize : i.size = size) (hby : i.bytes = bytes) (hzs : z.cells.size = size) (hsz : 0 < size) (n : Nat) (xs : List Value) (hown : w.ownsRow base e size (a.eval s) n xs)
    (m : Nat) (news : List Value) (hx : ∃ A c, a.eval x = .slice A m c ∧ Src w size A m news) (h1 : ∀ u ∈ news, u.oneCell' = true) (h63 : n + m ≤ maxLen) (hbytes : (n + m) * bytes ≤ 140737488355328) (hbase : base ≤ w.heap.size)
    (h : ∀ v' w', w'.ownsRow base e size v' (n + m) (xs ++ news) → w.grownBy w' (a.eval s).ownBlock → (∀ g, (a.eval s).ownBlock = some g → base ≤ g) → K (a.put o.dst v') w') :
    if Region.wanted o (yielded ops a.tmps) = true then Oper.wp P o a w K Q else E := by
  obtain ⟨A, c, hx, hr⟩ := hx
  exact step_app w hgd s x t ho base e i z size bytes ht hi hz hsize hby hzs hsz (a.eval s) n xs rfl hown A m c news hx hr h1 h63 hbytes hbase fun v' w' q1 q2 _ => h v' w' q1 q2 (fun g hg => (hown.lt g hg).1)
end
end Go.Proofs.Ytcfmjoadbamdiaa.App
namespace Go.Proofs.Ytcfmjoadbamdiaa.OscW
open Go.RowKit OscP Aid App
theorem info_seg : (Try.prog.info? 32).map (fun i => (i.zero, i.size, i.bytes)) = some (some (.agg #[.int .i64 0, .int .i64 0]), 2, 16) := by kernel_rfl
theorem own_lit0 {V : World} {base : Nat} (hb : base ≤ V.heap.size) : (V.alloc (.cells #[] 32)).ownsRow base 32 2 (.slice (some ⟨V.heap.size, 0, none⟩) 0 0) 0 [] :=
  World.ownsRow_lit V #[] 0 hb (by unfold maxLen; omega) rfl
theorem seg_src {w : World} {b off n : Nat} {A P : Nat → Int} {B : Nat} {a : World} (hc : ∀ W, Below B a W → ∀ i, i < n → W.cell? ⟨b, off + i * 2, none⟩ = some (.int .i64 (A i)) ∧ W.cell? ⟨b, off + i * 2 + 1, none⟩ = some (.int .i64 (P i))) (h : Below B a w) (i m : Nat) (hm : i + m ≤ n) :
    Src w 2 (some ⟨b, off + i * 2, none⟩) m (rowL A P i m) := segs_src (hc w h) i m hm
theorem own_lit1 {V : World} {g base : Nat} (hg : g = V.heap.size) (hb : base ≤ V.heap.size) : (V.alloc (.cells #[] 32)).ownsRow base 32 2 (.slice (some ⟨g, 0, none⟩) 0 0) 0 [] := by
  subst hg; exact own_lit0 hb
theorem undrew {a w : World} {row : Option Nat} (h : a.drew.grownBy w row) : a.grownBy w row := ⟨h.os, h.tape, h.output, h.size, h.block⟩
theorem two_one (x y : Int) : ∀ u ∈ ([.int .i64 x, .int .i64 y] : List Value), u.oneCell' = true := by
  intro u hu
  simp at hu
  rcases hu with rfl | rfl <;> rfl
theorem src_now {V : World} {x y : Value} : Src (V.alloc (.cells #[x, y] 32)) 2 (some ⟨V.heap.size, 0, none⟩) 1 [x, y] := src_block (heap_alloc_new V _) rfl
theorem src_later {V W : World} {x y : Value} {B : Nat} (h : Below B (V.alloc (.cells #[x, y] 32)) W) (hB : V.heap.size < B) : Src W 2 (some ⟨V.heap.size, 0, none⟩) 1 [x, y] :=
  src_now.far fun o => h.cell (p := ⟨V.heap.size, o, none⟩) hB
theorem src_grown {V W : World} {x y : Value} {row : Option Nat} (h : (V.alloc (.cells #[x, y] 32)).grownBy W row) (hr : row ≠ some V.heap.size) : Src W 2 (some ⟨V.heap.size, 0, none⟩) 1 [x, y] :=
  src_now.far fun o => World.cell?_of_block (h.block V.heap.size (by simp) (fun e => hr e.symm))
theorem src_grown2 {V W : World} {x y : Value} {o' : Obj} {row : Option Nat} (h : ((V.alloc (.cells #[x, y] 32)).alloc o').grownBy W row) (hr : row ≠ some V.heap.size) : Src W 2 (some ⟨V.heap.size, 0, none⟩) 1 [x, y] :=
  src_now.far fun o => (World.cell?_of_block (h.block V.heap.size (by simp; omega) (fun e => hr e.symm))).trans (World.cell?_of_block (Below.heap_alloc (V.alloc (.cells #[x, y] 32)) o' V.heap.size (by simp)))
theorem src_now1 {V : World} {x y : Value} {g : Nat} (hg : g = V.heap.size) : Src (V.alloc (.cells #[x, y] 32)) 2 (some ⟨g, 0, none⟩) 1 [x, y] := by subst hg; exact src_now
theorem src_grown1 {V W : World} {x y : Value} {row : Option Nat} {g : Nat} (h : (V.alloc (.cells #[x, y] 32)).grownBy W row) (hg : g = V.heap.size) (hr : row ≠ some g) : Src W 2 (some ⟨g, 0, none⟩) 1 [x, y] := by subst hg; exact src_grown h hr
theorem src_grown3 {V W : World} {x y : Value} {o' : Obj} {row : Option Nat} {g : Nat} (h : ((V.alloc (.cells #[x, y] 32)).alloc o').grownBy W row) (hg : g = V.heap.size) (hr : row ≠ some g) : Src W 2 (some ⟨g, 0, none⟩) 1 [x, y] := by subst hg; exact src_grown2 h hr
theorem src_keep {V W : World} {row : Option Nat} {g : Nat} {x y : Value} (h : V.grownBy W row) (hs : Src V 2 (some ⟨g, 0, none⟩) 1 [x, y]) (hg : g < V.heap.size) (hr : row ≠ some g) : Src W 2 (some ⟨g, 0, none⟩) 1 [x, y] :=
  hs.far fun o => World.cell?_of_block (h.block g hg (fun e => hr e.symm))
theorem src_drew {V : World} {g m : Nat} {L : List Value} (h : Src V 2 (some ⟨g, 0, none⟩) m L) : Src V.drew 2 (some ⟨g, 0, none⟩) m L := h.far fun _ => rfl
theorem src_up {V : World} {g : Nat} {x y : Value} {o : Obj} (h : Src V 2 (some ⟨g, 0, none⟩) 1 [x, y]) (hg : g < V.heap.size) : Src (V.alloc o) 2 (some ⟨g, 0, none⟩) 1 [x, y] :=
  h.far fun _ => World.cell?_of_block (Below.heap_alloc V o g hg)
theorem box_alloc {w : World} {o o' : Obj} {W : World} (h : Below (w.heap.size + 1) (w.alloc o) W) : Below (w.heap.size + 1) (w.alloc o) (W.alloc o') := h.alloc (by have := h.size; simpa using this) _
theorem box_grown {w : World} {o : Obj} {W W' : World} {row : Option Nat} (h : Below (w.heap.size + 1) (w.alloc o) W) (hg : W.grownBy W' row) (hr : ∀ g, row = some g → w.heap.size + 1 ≤ g) : Below (w.heap.size + 1) (w.alloc o) W' :=
  h.grown hg (by have := h.size; simpa using this) hr
theorem row_form {w : World} {base n : Nat} {v : Value} {xs : List Value} (h : w.ownsRow base 32 2 v n xs) (h0 : 0 < n) : ∃ g cap, v = .slice (some ⟨g, 0, none⟩) n cap ∧ base ≤ g ∧ g < w.heap.size := by
  rcases h.2 with ⟨_, h1⟩ | ⟨g, cap, cur, rfl, hb, hg, _⟩
  · omega
  · exact ⟨g, cap, rfl, hb, (Array.getElem?_eq_some_iff.1 hg).1⟩
theorem src_nilA {W : World} {A P : Nat → Int} {n k : Nat} (ad : Option Addr) (h : n - k = 0) : Src W 2 ad (n - k) (rowL A P k (n - k)) := by
  rw [h]
  simp [Src, rowL]
theorem cut_done {w : World} {base n k : Nat} {v : Value} {A P : Nat → Int} {at_ q : Int} (h : w.ownsRow base 32 2 v (0 + k + 1 + (n - k)) (((([] : List Value) ++ rowL A P 0 k) ++ [.int .i64 at_, .int .i64 q]) ++ rowL A P k (n - k))) (hk : k ≤ n) :
    w.ownsRow base 32 2 v (n + 1) (rowL (cutA A k at_) (cutA P k q) 0 (n + 1)) := by
  have e : 0 + k + 1 + (n - k) = n + 1 := by omega
  rw [e, cut_row A P k n at_ q hk] at h
  exact h
theorem none_one : ∀ u ∈ ([] : List Value), u.oneCell' = true := fun _ h => by simp at h
theorem src_nil {W : World} (ad : Option Addr) : Src W 2 ad 0 [] := by simp [Src]
theorem cut_done0 {w : World} {base n k : Nat} {v : Value} {A P : Nat → Int} {at_ q : Int} (h : w.ownsRow base 32 2 v (0 + k + 1 + 0) (((([] : List Value) ++ rowL A P 0 k) ++ [.int .i64 at_, .int .i64 q]) ++ [])) (hk : k ≤ n) (h0 : n - k = 0) :
    w.ownsRow base 32 2 v (n + 1) (rowL (cutA A k at_) (cutA P k q) 0 (n + 1)) := by
  refine cut_done ?_ hk
  rw [h0]
  exact h
theorem row_keep {w w' : World} {base n : Nat} {v : Value} {xs : List Value} (h : w.ownsRow base 32 2 v n xs) (hb : Below w.heap.size w w') : w'.ownsRow base 32 2 v n xs :=
  h.kept (only_of_below hb none) (by cases v.ownBlock <;> simp)
theorem same_rd {ph t : Int} {A P A' P' : Nat → Int} {n n' : Nat} (h1 : chk ph A P n = 0) (h2 : chk ph A' P' n' = 0) (h3 : rd ph A' P' n' t = rd ph A P n t) : rdV ph A' P' n' t = rdV ph A P n t ∧ rdE ph A' P' n' t = rdE ph A P n t := by
  unfold rdV rdE
  rw [h1, h2, h3]
  exact ⟨rfl, rfl⟩
theorem row_set (A P : Nat → Int) (k n : Nat) (at_ q q' : Int) (hk : k ≤ n) : (rowL (cutA A k at_) (cutA P k q) 0 (n + 1)).set (k * 2 + 1) (.int .i64 q') = rowL (cutA A k at_) (cutA P k q') 0 (n + 1) := by
  refine List.ext_getElem? fun j => ?_
  by_cases hj : j < (n + 1) * 2
  · by_cases e : j = k * 2 + 1
    · subst e
      rw [List.getElem?_set_self (by rw [rowL_len]; omega), rowL_get hj]
      unfold cellF cutA
      have e1 : ¬ (0 * 2 + (k * 2 + 1)) % 2 = 0 := by omega
      have e2 : (0 * 2 + (k * 2 + 1)) / 2 = k := by omega
      rw [if_neg e1, e2, if_neg (Nat.lt_irrefl k), if_pos rfl]
    · rw [List.getElem?_set_ne (by omega), rowL_get hj, rowL_get hj]
      unfold cellF
      by_cases e1 : (0 * 2 + j) % 2 = 0
      · rw [if_pos e1, if_pos e1]
      · rw [if_neg e1, if_neg e1]
        unfold cutA
        have e2 : ¬ (0 * 2 + j) / 2 = k := by omega
        by_cases e3 : (0 * 2 + j) / 2 < k
        · rw [if_pos e3, if_pos e3]
        · rw [if_neg e3, if_neg e3, if_neg e2, if_neg e2]
  · rw [List.getElem?_eq_none (by rw [List.length_set, rowL_len]; omega), List.getElem?_eq_none (by rw [rowL_len]; omega)]
theorem cut_cell (A P : Nat → Int) (k n : Nat) (at_ q : Int) (hk : k ≤ n) : (rowL (cutA A k at_) (cutA P k q) 0 (n + 1))[k * 2 + 1]? = some (.int .i64 q) := by
  rw [rowL_get (by omega)]
  unfold cellF cutA
  have e1 : ¬ (0 * 2 + (k * 2 + 1)) % 2 = 0 := by omega
  have e2 : (0 * 2 + (k * 2 + 1)) / 2 = k := by omega
  rw [if_neg e1, e2, if_neg (Nat.lt_irrefl k), if_pos rfl]
end Go.Proofs.Ytcfmjoadbamdiaa.OscW
