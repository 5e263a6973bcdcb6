/- Plain laws of layer 5: the next second, and the same second 400 years later. -/
import Derived.Test.YtbhpceghgjognaaDoorCivS
namespace Go.Proofs.YtbhpceghgjognaaDoor.Civ
open Go.RowKit Aid
theorem date_next {n y d : Int} {M : Nat} (D : Date n y M d) : (d < md y M → Date (n + 1) y M (d + 1)) ∧ (d = md y M → M < 12 → Date (n + 1) y (M + 1) 1) ∧ (d = md y M → M = 12 → Date (n + 1) (y + 1) 1 1) := by
  have e := D.d1
  have m1 := D.m1
  have m2 := D.m2
  have d2 := D.d2
  have es : ms y (M + 1) = ms y M + md y (M : Int) := rfl
  refine ⟨fun h => ?_, fun h h2 => ?_, fun h h2 => ?_⟩
  · have q := date_of (y := y) (d := d + 1) (m := M) m1 m2 (by omega) (by omega)
    rwa [show ys y + ms y M + (d + 1) - 1 = n + 1 by omega] at q
  · have q := date_of (y := y) (d := 1) (m := M + 1) (by omega) (by omega) (by omega) (by have := md_pos (y := y) (m := ((M + 1 : Nat) : Int)) (by omega) (by omega); omega)
    rwa [show ys y + ms y (M + 1) + 1 - 1 = n + 1 by omega] at q
  · subst h2
    have q := date_of (y := y + 1) (d := 1) (m := 1) (by omega) (by omega) (by omega) (by have := md_pos (y := y + 1) (m := ((1 : Nat) : Int)) (by omega) (by omega); omega)
    have e13 : ms y (12 + 1) = yd y := ms_13 y
    rw [ms_1, ys_next] at q
    rwa [show ys y + yd y + 0 + 1 - 1 = n + 1 by omega] at q
inductive Next (y d H I S : Int) (M : Nat) : Int → Int → Int → Int → Int → Nat → Prop
  | sec (h : S < 59) : Next y d H I S M y d H I (S + 1) M
  | min (h : S = 59) (h2 : I < 59) : Next y d H I S M y d H (I + 1) 0 M
  | hour (h : S = 59) (h2 : I = 59) (h3 : H < 23) : Next y d H I S M y d (H + 1) 0 0 M
  | day (h : S = 59) (h2 : I = 59) (h3 : H = 23) (h4 : d < md y M) : Next y d H I S M y (d + 1) 0 0 0 M
  | month (h : S = 59) (h2 : I = 59) (h3 : H = 23) (h4 : d = md y M) (h5 : M < 12) : Next y d H I S M y 1 0 0 0 (M + 1)
  | year (h : S = 59) (h2 : I = 59) (h3 : H = 23) (h4 : d = md y M) (h5 : M = 12) : Next y d H I S M (y + 1) 1 0 0 0 1
theorem ofV_date {sec y d : Int} {M : Nat} (hr : -8000000000 ≤ sec ∧ sec ≤ 8000000000) (D : Date (sec / 86400) y M d) :
    ofV sec = .agg #[.int .i64 y, .int .i64 (M : Int), .int .i64 d, .int .i64 (sec % 86400 / 3600), .int .i64 (sec % 86400 / 60 % 60), .int .i64 (sec % 86400 % 60), .int .i64 0] := by
  obtain ⟨h1, h2⟩ := hr
  have n1 : -92593 ≤ sec / 86400 := by omega
  have E := dateOf_eq (n := sec / 86400) (by unfold ys; omega) D
  unfold ofV
  rw [E]
theorem next_of {sec : Int} (h : -8000000000 ≤ sec ∧ sec < 8000000000) : ∃ (y d H I S y' d' H' I' S' : Int) (M M' : Nat) (st : Int), ofV sec = .agg #[.int .i64 y, .int .i64 (M : Int), .int .i64 d, .int .i64 H, .int .i64 I, .int .i64 S, .int .i64 0] ∧
    ofV (sec + 1) = .agg #[.int .i64 y', .int .i64 (M' : Int), .int .i64 d', .int .i64 H', .int .i64 I', .int .i64 S', .int .i64 0] ∧ Valid y (M : Int) d H I S 0 ∧ Next y d H I S M y' d' H' I' S' M' ∧
    (sec + 1) / 86400 = sec / 86400 + st ∧ ((d' = d ∧ st = 0) ∨ (d' ≠ d ∧ st = 1)) := by
  obtain ⟨y, d, H, I, S, M, e, v, _, D, rfl, rfl, rfl⟩ := of_sec (sec := sec) ⟨h.1, by omega⟩
  have fin : ∀ (y' d' : Int) (M' : Nat) (H' I' S' st : Int), Date ((sec + 1) / 86400) y' M' d' → (sec + 1) % 86400 / 3600 = H' → (sec + 1) % 86400 / 60 % 60 = I' → (sec + 1) % 86400 % 60 = S' → (sec + 1) / 86400 = sec / 86400 + st →
      ((d' = d ∧ st = 0) ∨ (d' ≠ d ∧ st = 1)) → Next y d (sec % 86400 / 3600) (sec % 86400 / 60 % 60) (sec % 86400 % 60) M y' d' H' I' S' M' → ∃ (y_ d_ H_ I_ S_ y' d' H' I' S' : Int) (M_ M' : Nat) (st : Int), ofV sec = .agg #[.int .i64 y_, .int .i64 (M_ : Int), .int .i64 d_, .int .i64 H_, .int .i64 I_, .int .i64 S_, .int .i64 0] ∧
    ofV (sec + 1) = .agg #[.int .i64 y', .int .i64 (M' : Int), .int .i64 d', .int .i64 H', .int .i64 I', .int .i64 S', .int .i64 0] ∧ Valid y_ (M_ : Int) d_ H_ I_ S_ 0 ∧ Next y_ d_ H_ I_ S_ M_ y' d' H' I' S' M' ∧
    (sec + 1) / 86400 = sec / 86400 + st ∧ ((d' = d_ ∧ st = 0) ∨ (d' ≠ d_ ∧ st = 1)) := by
    intro y' d' M' H' I' S' st D' e1 e2 e3 e4 e5 N
    refine ⟨y, d, _, _, _, y', d', H', I', S', M, M', st, e, ?_, v, N, e4, e5⟩
    rw [ofV_date ⟨by omega, by omega⟩ D', e1, e2, e3]
  obtain ⟨n1, n2, n3⟩ := date_next D
  have dm := D.d3
  have d2 := D.d2
  have hm := md_pos (y := y) (m := (M : Int)) (by have := D.m1; omega) (by have := D.m2; omega)
  have m2 := D.m2
  have hlt : sec % 86400 < 86400 := Int.emod_lt_of_pos _ (by omega)
  have hge : 0 ≤ sec % 86400 := Int.emod_nonneg _ (by omega)
  by_cases c1 : sec % 86400 % 60 < 59
  · exact fin y d M _ _ _ 0 (by rw [show (sec + 1) / 86400 = sec / 86400 by omega]; exact D) (by omega) (by omega) (show _ = sec % 86400 % 60 + 1 by omega) (by omega) (.inl ⟨rfl, rfl⟩) (.sec c1)
  · by_cases c2 : sec % 86400 / 60 % 60 < 59
    · exact fin y d M _ _ _ 0 (by rw [show (sec + 1) / 86400 = sec / 86400 by omega]; exact D) (by omega) (show _ = sec % 86400 / 60 % 60 + 1 by omega) (by omega) (by omega) (.inl ⟨rfl, rfl⟩) (.min (by omega) c2)
    · by_cases c3 : sec % 86400 / 3600 < 23
      · exact fin y d M _ _ _ 0 (by rw [show (sec + 1) / 86400 = sec / 86400 by omega]; exact D) (show _ = sec % 86400 / 3600 + 1 by omega) (by omega) (by omega) (by omega) (.inl ⟨rfl, rfl⟩) (.hour (by omega) (by omega) c3)
      · have q : (sec + 1) / 86400 = sec / 86400 + 1 := by omega
        by_cases c4 : d < md y (M : Int)
        · exact fin y (d + 1) M 0 0 0 1 (by rw [q]; exact n1 c4) (by omega) (by omega) (by omega) q (.inr ⟨by omega, rfl⟩) (.day (by omega) (by omega) (by omega) c4)
        · by_cases c5 : M < 12
          · exact fin y 1 (M + 1) 0 0 0 1 (by rw [q]; exact n2 (by omega) c5) (by omega) (by omega) (by omega) q (.inr ⟨by omega, rfl⟩) (.month (by omega) (by omega) (by omega) (by omega) c5)
          · exact fin (y + 1) 1 1 0 0 0 1 (by rw [q]; exact n3 (by omega) (by omega)) (by omega) (by omega) (by omega) q (.inr ⟨by omega, rfl⟩) (.year (by omega) (by omega) (by omega) (by omega) (by omega))
theorem leap_400 (y : Int) : leap (y + 400) = leap y := by
  unfold leap
  rw [show (y + 400) % 4 = y % 4 by omega, show (y + 400) % 100 = y % 100 by omega, show (y + 400) % 400 = y % 400 by omega]
theorem md_400 (y m : Int) : md (y + 400) m = md y m := by unfold md; rw [leap_400]
theorem ys_400 (y : Int) : ys (y + 400) = ys y + 146097 := by unfold ys; omega
theorem ms_400 (y : Int) (m : Nat) : ms (y + 400) m = ms y m := by
  induction m with
  | zero => rfl
  | succ m ih => show ms (y + 400) m + md (y + 400) m = ms y m + md y m; rw [ih, md_400]
theorem date_400 {n y d : Int} {M : Nat} (D : Date n y M d) : Date (n + 146097) (y + 400) M d := by
  obtain ⟨a, b, c, e, f, g, h⟩ := D
  refine ⟨by rw [ys_400]; omega, by rw [show y + 400 + 1 = y + 1 + 400 by omega, ys_400]; omega, c, e, ?_, g, ?_⟩
  · rw [ys_400, ms_400]; omega
  · rw [md_400]; exact h
theorem cycle_of {sec : Int} (h : -8000000000 ≤ sec ∧ sec + 12622780800 ≤ 8000000000) : ∃ (y d H I S : Int) (M : Nat), ofV sec = .agg #[.int .i64 y, .int .i64 (M : Int), .int .i64 d, .int .i64 H, .int .i64 I, .int .i64 S, .int .i64 0] ∧
    ofV (sec + 12622780800) = .agg #[.int .i64 (y + 400), .int .i64 (M : Int), .int .i64 d, .int .i64 H, .int .i64 I, .int .i64 S, .int .i64 0] ∧ Valid y (M : Int) d H I S 0 := by
  obtain ⟨y, d, H, I, S, M, e, v, _, D, rfl, rfl, rfl⟩ := of_sec (sec := sec) ⟨h.1, by omega⟩
  refine ⟨y, d, _, _, _, M, e, ?_, v⟩
  have D' := date_400 D
  rw [ofV_date (sec := sec + 12622780800) ⟨by omega, h.2⟩ (by rw [show (sec + 12622780800) / 86400 = sec / 86400 + 146097 by omega]; exact D')]
  rw [show (sec + 12622780800) % 86400 = sec % 86400 by omega]
end Go.Proofs.YtbhpceghgjognaaDoor.Civ
