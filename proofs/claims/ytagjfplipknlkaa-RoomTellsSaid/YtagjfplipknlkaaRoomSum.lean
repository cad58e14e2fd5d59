
/-
  Layer 3, plain: sums over the sectors; the first free ones; pieces put together are the same sectors.
-/
import Derived.Test.YtagjfplipknlkaaCnt
set_option linter.unusedVariables false
set_option linter.unusedSimpArgs false
namespace Go.Proofs.Ytagjfplipknlkaa
open Go
namespace room
def sumN (f : Nat → Int) : Nat → Int
  | 0 => 0
  | n + 1 => sumN f n + f n
theorem sumN_congr {f g : Nat → Int} : ∀ {n : Nat}, (∀ k, k < n → f k = g k) → sumN f n = sumN g n
  | 0, _ => rfl
  | n + 1, h => by rw [sumN, sumN, sumN_congr (fun k hk => h k (by omega)), h n (by omega)]
theorem sumN_add (f g : Nat → Int) : ∀ n, sumN (fun k => f k + g k) n = sumN f n + sumN g n
  | 0 => rfl
  | n + 1 => by rw [sumN, sumN, sumN, sumN_add f g n]; omega
theorem sumN_le {f : Nat → Int} : ∀ {n : Nat}, (∀ k, k < n → f k ≤ 1) → sumN f n ≤ n
  | 0, _ => by simp [sumN]
  | n + 1, h => by have := sumN_le (f := f) (n := n) (fun k hk => h k (by omega)); have := h n (by omega); rw [sumN]; omega
theorem sum_in {p : Piece} (h0 : 0 ≤ p.fr) (h1 : 0 ≤ p.ct) : ∀ n : Nat, sumN (inP p) n = max 0 (min (n : Int) (p.fr + p.ct) - p.fr)
  | 0 => by rw [sumN]; omega
  | n + 1 => by
    rw [sumN, sum_in h0 h1 n]
    unfold inP
    split <;> omega
theorem total_sum {n : Nat} : ∀ {l : List Piece}, (∀ p ∈ l, okP (n : Int) p) → totalF l = sumN (cnt l) n
  | [], _ => by
    rw [totalF]
    induction n with
    | zero => rfl
    | succ n ih => rw [sumN, ← ih (fun p hp => by cases hp)]; rfl
  | p :: l, h => by
    have h0 := h p (by simp)
    unfold okP at h0
    rw [totalF, total_sum (fun q hq => h q (List.mem_cons_of_mem _ hq)), show cnt (p :: l) = fun k => inP p k + cnt l k from rfl, sumN_add, sum_in (by omega) (by omega)]
    omega
theorem total_ge : ∀ {l : List Piece}, (∀ p ∈ l, 1 ≤ p.ct) → (l.length : Int) ≤ totalF l
  | [], _ => by simp [totalF]
  | p :: l, h => by
    have h0 := h p (by simp)
    have := total_ge (l := l) (fun q hq => h q (List.mem_cons_of_mem _ hq))
    simp only [totalF, List.length_cons]; omega
/-- pieces that may be are no more than there are sectors -/
theorem may_length {n : Nat} {l : List Piece} (h : mayP (n : Int) l) : l.length ≤ n ∧ totalF l ≤ n := by
  have h1 := total_ge (l := l) (fun p hp => (h.1 p hp).1)
  have h2 := total_sum h.1
  have h3 := sumN_le (f := cnt l) (n := n) (fun k _ => by rw [cnt_apart h.2]; split <;> omega)
  omega
theorem total_push (out : List Piece) (k : Int) : totalF (pushR out k) = totalF out + 1 := by
  rcases List.eq_nil_or_concat out with h | ⟨o, q, h⟩
  · subst h; rfl
  · rw [List.concat_eq_append] at h
    subst h
    rw [push_snoc]
    split
    · rw [total_append, total_append]; simp only [totalF]; omega
    · rw [total_append, total_append]; simp only [totalF]; omega
theorem take_append : ∀ {o r : List Piece} {m : Int}, (∀ p ∈ o, 1 ≤ p.ct) → totalF o ≤ m → takeF (o ++ r) m = o ++ takeF r (m - totalF o)
  | [], r, m, _, _ => by simp [totalF]
  | p :: o, r, m, h, hm => by
    have h0 := h p (by simp)
    have h1 := total_pos (l := o) (fun q hq => h q (List.mem_cons_of_mem _ hq))
    simp only [totalF] at hm
    rw [List.cons_append, takeF, if_neg (by omega), show min p.ct m = p.ct by omega, take_append (fun q hq => h q (List.mem_cons_of_mem _ hq)) (by omega), totalF, show m - p.ct - totalF o = m - (p.ct + totalF o) by omega]
    rfl
theorem take_push {out : List Piece} {k m : Int} (h : ∀ p ∈ out, 1 ≤ p.ct) (h0 : 0 ≤ m) (hm : m ≤ totalF out) : takeF (pushR out k) m = takeF out m := by
  rcases List.eq_nil_or_concat out with e | ⟨o, q, e⟩
  · subst e
    have : m = 0 := by simp only [totalF] at hm; omega
    subst this; rfl
  · rw [List.concat_eq_append] at e
    subst e
    rw [push_snoc]
    split
    · have ho : ∀ p ∈ o, 1 ≤ p.ct := fun p hp => h p (by simp [hp])
      by_cases hc : m ≤ totalF o
      · rw [take_more ho h0 hc, take_more ho h0 hc]
      · rw [total_append] at hm
        simp only [totalF] at hm
        rw [take_append ho (by omega), take_append ho (by omega)]
        simp only [takeF]
        rw [if_neg (by omega), if_neg (by omega), show min (q.ct + 1) (m - totalF o) = m - totalF o by omega, show min q.ct (m - totalF o) = m - totalF o by omega]
    · exact take_more h h0 hm
/-- what is taken of runs are the runs up to some sector -/
theorem take_runs {f : Nat → Bool} {a : Nat} : ∀ {n : Nat} {m : Int}, 0 ≤ m → m ≤ totalF (runsTo f a n) → ∃ n', n' ≤ n ∧ takeF (runsTo f a n) m = runsTo f a n' ∧ totalF (runsTo f a n') = m
  | 0, m, h0, hm => ⟨0, Nat.le_refl _, rfl, by simp only [runsTo, totalF] at hm ⊢; omega⟩
  | n + 1, m, h0, hm => by
    have hp := (runs_ok f a n).pos
    by_cases hf : f (a + n) = true
    · by_cases he : m = totalF (runsTo f a (n + 1))
      · exact ⟨n + 1, Nat.le_refl _, take_all (fun p hp => ((runs_ok f a (n + 1)).pos p hp).1) (by omega), he.symm⟩
      · rw [runsTo, if_pos hf] at he hm ⊢
        rw [total_push] at he hm
        obtain ⟨n', h1, h2, h3⟩ := take_runs (f := f) (a := a) (n := n) h0 (by omega)
        exact ⟨n', by omega, by rw [take_push (fun p h => (hp p h).1) h0 (by omega), h2], h3⟩
    · rw [runsTo, if_neg hf] at hm ⊢
      obtain ⟨n', h1, h2, h3⟩ := take_runs (f := f) (a := a) (n := n) h0 hm
      exact ⟨n', by omega, h2, h3⟩
/-- runs in so many sectors may be -/
theorem runs_may {f : Nat → Bool} {a n N : Nat} (h : a + n ≤ N) (l : List Piece) (he : l = runsTo f a n) : mayP (N : Int) l := by
  subst he
  have R := runs_ok f a n
  refine ⟨fun p hp => ?_, apart_of_sep R.sep⟩
  obtain ⟨h1, h2, h3⟩ := R.pos p hp
  unfold okP; omega
/-- pieces and runs of what they leave -/
theorem both_may {l : List Piece} {a n N : Nat} (h : a + n ≤ N) (hm : mayP (N : Int) l) : mayP (N : Int) (l ++ runsTo (fun k => !covB l k) a n) := by
  have R := runs_ok (fun k => !covB l k) a n
  have hr := runs_may (f := fun k => !covB l k) h _ rfl
  refine ⟨fun p hp => ?_, List.pairwise_append.2 ⟨hm.2, hr.2, fun p hp q hq => ?_⟩⟩
  · rcases List.mem_append.1 hp with hp | hp
    · exact hm.1 p hp
    · exact hr.1 p hp
  · refine Decidable.byContradiction fun hn => ?_
    have h1 := hm.1 p hp
    have h2 := hr.1 q hq
    unfold okP at h1 h2
    unfold apart at hn
    have hk : ∃ k : Nat, (k : Int) = max p.fr q.fr := ⟨(max p.fr q.fr).toNat, by omega⟩
    obtain ⟨k, hk⟩ := hk
    have c1 : covB l k = true := cov_iff.2 ⟨p, hp, by omega, by omega⟩
    have c2 : covB (runsTo (fun k => !covB l k) a n) k = true := cov_iff.2 ⟨q, hq, by omega, by omega⟩
    rw [R.cov k, c1] at c2
    simp at c2
/-- behind what is taken -/
theorem rest_behind {l : List Piece} {a n n' : Nat} (hn : n' ≤ n) {r q : Piece} (hr : r ∈ runsTo (fun k => !covB (l ++ runsTo (fun k => !covB l k) a n') k) a n) (hq : q ∈ runsTo (fun k => !covB l k) a n') : q.fr + q.ct ≤ r.fr := by
  obtain ⟨r1, r2, r3⟩ := (runs_ok (fun k => !covB (l ++ runsTo (fun k => !covB l k) a n') k) a n).pos r hr
  obtain ⟨q1, q2, q3⟩ := (runs_ok (fun k => !covB l k) a n').pos q hq
  obtain ⟨k, hk⟩ : ∃ k : Nat, (k : Int) = r.fr := ⟨r.fr.toNat, by omega⟩
  have c1 : covB (runsTo (fun k => !covB (l ++ runsTo (fun k => !covB l k) a n') k) a n) k = true := cov_iff.2 ⟨r, hr, by omega, by omega⟩
  rw [(runs_ok _ a n).cov k] at c1
  simp only [Bool.and_eq_true, decide_eq_true_eq] at c1
  obtain ⟨c2, c3⟩ := c1
  rw [cov_append, Bool.not_eq_true', Bool.or_eq_false_iff, (runs_ok _ a n').cov k] at c3
  obtain ⟨c4, c5⟩ := c3
  rw [c4] at c5
  simp only [Bool.not_false, Bool.and_true, decide_eq_false_iff_not] at c5
  omega
/-- pieces put together -/
theorem join_cov {l : List Piece} (h : mayP 4096 l) : covB (joinF l) = covB l := by
  funext k
  unfold joinF
  rw [(runs_ok (covB l) 0 4096).cov k]
  by_cases hk : k < 4096
  · rw [decide_eq_true (show 0 ≤ k ∧ k < 0 + 4096 by omega), Bool.true_and]
  · rw [decide_eq_false (show ¬ (0 ≤ k ∧ k < 0 + 4096) by omega), Bool.false_and]
    exact (covB_false (fun p hp hh => by have := h.1 p hp; unfold okP at this; omega)).symm
theorem join_may (l : List Piece) : mayP 4096 (joinF l) := runs_may (N := 4096) (f := covB l) (a := 0) (n := 4096) (by omega) _ rfl
theorem join_check (l : List Piece) : checkR 4096 (joinF l) = 0 := check_0 (by decide) (by have := joinF_length l; omega) (join_may l)
theorem join_join {l : List Piece} (h : mayP 4096 l) : joinF (joinF l) = joinF l := by
  show runsTo (covB (joinF l)) 0 4096 = runsTo (covB l) 0 4096
  rw [join_cov h]
theorem join_cnt {l : List Piece} (h : mayP 4096 l) (k : Nat) : cnt (joinF l) k = cnt l k := by
  rw [cnt_apart (join_may l).2, cnt_apart h.2, join_cov h]
theorem join_total {l : List Piece} (h : mayP 4096 l) : totalF (joinF l) = totalF l := by
  rw [total_sum (n := 4096) (join_may l).1, total_sum (n := 4096) h.1]
  exact sumN_congr (fun k _ => join_cnt h k)
end room
end Go.Proofs.Ytagjfplipknlkaa
