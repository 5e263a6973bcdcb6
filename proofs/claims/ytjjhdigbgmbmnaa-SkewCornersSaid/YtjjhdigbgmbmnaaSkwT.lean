/- The hull as a list, and the row that holds it. -/
import Derived.Test.YtjjhdigbgmbmnaaSkwS
import Derived.Test.YtjjhdigbgmbmnaaApp
import Derived.OwnWalk
namespace Go.Proofs.Ytjjhdigbgmbmnaa.Skw
open Go.RowKit Aid Fx
def popW (c : Nat → Nat → Nat → Bool) (k : Nat) : List Nat → List Nat
  | j :: i :: t => if c i j k then j :: i :: t else popW c k (i :: t)
  | l => l
/-- the corners, the last one first -/
def hullS (c : Nat → Nat → Nat → Bool) : Nat → List Nat
  | 0 => []
  | k + 1 => k :: popW c k (hullS c k)
theorem pop_suffix (c : Nat → Nat → Nat → Bool) (k : Nat) : ∀ l, popW c k l <:+ l
  | [] => List.suffix_refl _
  | [_] => List.suffix_refl _
  | j :: i :: t => by
    unfold popW
    split
    · exact List.suffix_refl _
    · exact (pop_suffix c k (i :: t)).trans (List.suffix_cons _ _)
/-- below k, going down -/
def Down (k : Nat) (l : List Nat) : Prop := (∀ x ∈ l, x < k) ∧ l.Pairwise (· > ·)
theorem Down.suffix {k : Nat} {l m : List Nat} (h : Down k l) (s : m <:+ l) : Down k m :=
  ⟨fun x hx => h.1 x (s.subset hx), h.2.sublist s.sublist⟩
theorem hull_down (c : Nat → Nat → Nat → Bool) : ∀ k, Down k (hullS c k)
  | 0 => ⟨by simp [hullS], by simp [hullS]⟩
  | k + 1 => by
    have h := (hull_down c k).suffix (pop_suffix c k _)
    refine ⟨?_, ?_⟩
    · intro x hx
      unfold hullS at hx
      rcases List.mem_cons.1 hx with rfl | hx
      · omega
      · have := h.1 x hx; omega
    · unfold hullS
      exact List.pairwise_cons.2 ⟨fun x hx => h.1 x hx, h.2⟩
theorem Down.len : ∀ {k : Nat} {l : List Nat}, Down k l → l.length ≤ k
  | k, [], _ => Nat.zero_le _
  | k, a :: t, h => by
    have h1 := h.1 a (List.mem_cons_self ..)
    have h2 : Down a t := ⟨fun x hx => (List.pairwise_cons.1 h.2).1 x hx, (List.pairwise_cons.1 h.2).2⟩
    have := h2.len
    simp only [List.length_cons]
    omega
def ints (l : List Nat) : List Value := l.map fun (x : Nat) => Value.int .i64 (x : Int)
def lnOf : Value → Nat
  | .slice _ n _ => n
  | _ => 0
theorem row_len {w : World} {base : Nat} {e : TypeId} {size n : Nat} {v : Value} {xs : List Value} (h : w.ownsRow base e size v n xs) : lnOf v = n ∧ ∃ p c, v = .slice p n c := by
  rcases h.2 with ⟨rfl, rfl⟩ | ⟨g, cap, cur, rfl, _⟩
  · exact ⟨rfl, _, _, rfl⟩
  · exact ⟨rfl, _, _, rfl⟩
theorem row_step {w w' : World} {base n : Nat} {e : TypeId} {size : Nat} {v : Value} {xs : List Value} (h : w.ownsRow base e size v n xs) (hb : Below w.heap.size w w') : w'.ownsRow base e size v n xs := by
  refine ⟨h.1, ?_⟩
  rcases h.2 with hn | ⟨g, cap, cur, rfl, hg, hgg, rest⟩
  · exact .inl hn
  · exact .inr ⟨g, cap, cur, rfl, hg, (hb.block g (Array.getElem?_eq_some_iff.1 hgg).1).trans hgg, rest⟩
theorem ints_two (i j : Nat) (t : List Nat) : ints (j :: i :: t).reverse = ints t.reverse ++ [.int .i64 (i : Int), .int .i64 (j : Int)] := by
  unfold ints
  simp
theorem ints_one (i : Nat) (t : List Nat) : ints (i :: t).reverse = ints t.reverse ++ [.int .i64 (i : Int)] := by
  unfold ints
  simp
theorem ints_len (l : List Nat) : (ints l).length = l.length := by unfold ints; simp
theorem row_two {w : World} {base q : Nat} {e : TypeId} {v : Value} {i j : Nat} {t : List Nat} (h : w.ownsRow base e 1 v (q + 2) (ints (j :: i :: t).reverse)) (hq : t.length = q) :
    ∃ g cap, v = .slice (some ⟨g, 0, none⟩) (q + 2) cap ∧ base ≤ g ∧ g < w.heap.size ∧ w.cell? ⟨g, q, none⟩ = some (.int .i64 (i : Int)) ∧ w.cell? ⟨g, q + 1, none⟩ = some (.int .i64 (j : Int)) ∧ q + 2 ≤ cap ∧ cap ≤ maxLen ∧ w.ownsRow base e 1 (.slice (some ⟨g, 0, none⟩) (q + 1) cap) (q + 1) (ints (i :: t).reverse) := by
  rcases h.2 with ⟨_, h0⟩ | ⟨g, cap, cur, rfl, hb, hg, hn, hm, hs, ht⟩
  · omega
  · rw [ints_two] at ht
    have hl : (ints t.reverse).length = q := by rw [ints_len, List.length_reverse, hq]
    have c0 : cur[q]? = some (.int .i64 (i : Int)) := by
      rw [← Array.getElem?_toList, ← List.getElem?_take_of_lt (show q < (q + 2) * 1 by omega), ht, List.getElem?_append_right (by omega), hl, Nat.sub_self]; rfl
    have c1 : cur[q + 1]? = some (.int .i64 (j : Int)) := by
      rw [← Array.getElem?_toList, ← List.getElem?_take_of_lt (show q + 1 < (q + 2) * 1 by omega), ht, List.getElem?_append_right (by omega), hl, Nat.add_sub_cancel_left]; rfl
    refine ⟨g, cap, rfl, hb, (Array.getElem?_eq_some_iff.1 hg).1, (cell_of_row w g q _ _ _ hg).trans c0, (cell_of_row w g (q + 1) _ _ _ hg).trans c1, hn, hm, ?_, .inr ⟨g, cap, cur, rfl, hb, hg, by omega, hm, hs, ?_⟩⟩
    · rw [ints_len, List.length_reverse, List.length_cons, hq]; omega
    · have e : cur.toList.take ((q + 1) * 1) = (cur.toList.take ((q + 2) * 1)).take ((q + 1) * 1) := by rw [List.take_take]; congr 1; omega
      rw [e, ht, ints_one, List.take_append, hl]
      have e1 : (q + 1) * 1 - q = 1 := by omega
      rw [e1, List.take_of_length_le (by omega)]
      rfl
theorem row_add {k : Nat} {t : List Nat} : ints t.reverse ++ [.int .i64 (k : Int)] = ints (k :: t).reverse := (ints_one k t).symm
theorem app_low {a w w' : World} {e : TypeId} {size : Nat} {v : Value} {n : Nat} {xs : List Value} (h : Below a.heap.size a w) (g : w.grownBy w' v.ownBlock) (o : w.ownsRow a.heap.size e size v n xs) : Below a.heap.size a w' := h.grown g h.size (fun k q => (o.lt k q).1)
theorem pop_no {c : Nat → Nat → Nat → Bool} {k i x : Nat} {t : List Nat} (h : c i x k = false) : popW c k (x :: i :: t) = popW c k (i :: t) := by
  conv => lhs; unfold popW
  rw [h, if_neg (by decide)]
theorem info_int : (Try.prog.info? 3).map (fun i => (i.zero, i.size, i.bytes)) = some (some (.int .i64 0), 1, 8) := by kernel_rfl
end Go.Proofs.Ytjjhdigbgmbmnaa.Skw
