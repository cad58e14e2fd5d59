
/-
  Layer 3, plain: what the document's own walk, sector by sector, comes to.
-/
import Derived.Test.YtagjfplipknlkaaRoomSum
set_option linter.unusedVariables false
set_option linter.unusedSimpArgs false
namespace Go.Proofs.Ytagjfplipknlkaa
open Go
namespace room
def rowB (n : Nat) (f : Nat → Bool) : List Value := (List.range n).map (fun k => .bool (f k))
theorem rowB_len (n : Nat) (f : Nat → Bool) : (rowB n f).length = n := by simp [rowB]
theorem rowB_get {n : Nat} (f : Nat → Bool) {k : Nat} (h : k < n) : (rowB n f)[k]? = some (.bool (f k)) := by simp [rowB, h]
theorem rowB_congr {n : Nat} {f g : Nat → Bool} (h : ∀ k, k < n → f k = g k) : rowB n f = rowB n g := by
  unfold rowB
  exact List.map_congr_left (fun k hk => by rw [h k (List.mem_range.1 hk)])
theorem rowB_set {n m : Nat} {f : Nat → Bool} {x : Bool} (hm : m < n) : (rowB n f).set m (.bool x) = rowB n (fun k => if k = m then x else f k) := by
  apply List.ext_getElem
  · simp [rowB]
  · intro k h1 h2
    simp only [rowB, List.length_set, List.length_map, List.length_range] at h1
    rw [List.getElem_set]
    simp only [rowB, List.getElem_map, List.getElem_range]
    by_cases hk : m = k
    · subst hk; rw [if_pos rfl, if_pos rfl]
    · rw [if_neg hk, if_neg (fun h => hk h.symm)]
theorem rowB_zero (n : Nat) : List.replicate n (.bool false) = rowB n (fun _ => false) := by
  apply List.ext_getElem
  · simp [rowB]
  · intro k h1 h2; simp [rowB]
/-- among the first pieces, and in the one that is being marked -/
def markB (l : List Piece) (p : Piece) (e : Int) (k : Nat) : Bool := covB l k || decide (p.fr ≤ (k : Int) ∧ (k : Int) < e)
theorem not_may_of {N : Int} {l : List Piece} {p : Piece} (hp : p ∈ l) (h : ¬ okP N p) : ¬ mayP N l := fun hm => h (hm.1 p hp)
theorem not_may_at {N : Int} {l : List Piece} {i k : Nat} (hi : i < l.length) (h1 : covB (l.take i) k = true) (h2 : l[i].fr ≤ (k : Int) ∧ (k : Int) < l[i].fr + l[i].ct) : ¬ mayP N l := fun hm => by
  obtain ⟨q, hq, h3, h4⟩ := cov_iff.1 h1
  obtain ⟨j, hj, rfl⟩ := List.mem_take_iff_getElem.1 hq
  have := List.pairwise_iff_getElem.1 hm.2 j i (by omega) hi (by omega)
  unfold apart at this
  omega
theorem may_more {N : Int} {l : List Piece} {i : Nat} (hi : i < l.length) (hm : mayP N (l.take i)) (hok : okP N l[i]) (hn : ∀ k : Nat, l[i].fr ≤ (k : Int) → (k : Int) < l[i].fr + l[i].ct → covB (l.take i) k = false) : mayP N (l.take (i + 1)) := by
  rw [List.take_succ_eq_append_getElem hi]
  refine ⟨fun p hp => ?_, List.pairwise_append.2 ⟨hm.2, List.pairwise_singleton _ _, fun q hq p hp => ?_⟩⟩
  · rcases List.mem_append.1 hp with hp | hp
    · exact hm.1 p hp
    · rw [List.mem_singleton] at hp; subst hp; exact hok
  · rw [List.mem_singleton] at hp; subst hp
    have h1 := hm.1 q hq
    unfold okP at h1 hok
    refine Decidable.byContradiction fun hna => ?_
    unfold apart at hna
    obtain ⟨k, hk⟩ : ∃ k : Nat, (k : Int) = max q.fr l[i].fr := ⟨(max q.fr l[i].fr).toNat, by omega⟩
    have := hn k (by omega) (by omega)
    rw [cov_iff.2 ⟨q, hq, by omega, by omega⟩] at this
    cases this
theorem cov_more {l : List Piece} {i : Nat} (hi : i < l.length) (k : Nat) : covB (l.take (i + 1)) k = markB (l.take i) l[i] (l[i].fr + l[i].ct) k := by
  rw [List.take_succ_eq_append_getElem hi, cov_append, cov_one]
  rfl
theorem mark_none {l : List Piece} {p : Piece} (k : Nat) : markB l p p.fr k = covB l k := by
  unfold markB
  rw [decide_eq_false (by omega), Bool.or_false]
theorem mark_step {l : List Piece} {p : Piece} {m n : Nat} (h : p.fr ≤ (m : Int)) (hm : m < n) : (rowB n (markB l p (m : Int))).set m (.bool true) = rowB n (markB l p ((m + 1 : Nat) : Int)) := by
  rw [rowB_set hm]
  refine rowB_congr (fun k _ => ?_)
  unfold markB
  by_cases hk : k = m
  · subst hk
    rw [if_pos rfl, decide_eq_true (show p.fr ≤ (k : Int) ∧ (k : Int) < ((k + 1 : Nat) : Int) by omega), Bool.or_true]
  · rw [if_neg hk]
    congr 1
    exact decide_eq_decide.2 (by omega)
theorem total_runs (f : Nat → Bool) (a : Nat) (n : Nat) : totalF (runsTo f a (n + 1)) = totalF (runsTo f a n) + if f (a + n) = true then 1 else 0 := by
  rw [runsTo]
  split
  · rw [total_push]
  · omega
theorem total_mono {f : Nat → Bool} {a j : Nat} : ∀ {N : Nat}, j ≤ N → totalF (runsTo f a j) ≤ totalF (runsTo f a N)
  | 0, h => by rw [show j = 0 by omega]; exact Int.le_refl _
  | N + 1, h => by
    by_cases he : j = N + 1
    · rw [he]; exact Int.le_refl _
    · have := total_mono (f := f) (a := a) (j := j) (N := N) (by omega)
      rw [total_runs]
      split <;> omega
/-- once there are so many, no more are taken -/
theorem take_upto {f : Nat → Bool} {a j : Nat} {m : Int} (h0 : 0 ≤ m) (hj : totalF (runsTo f a j) = m) : ∀ {N : Nat}, j ≤ N → takeF (runsTo f a N) m = runsTo f a j
  | 0, h => by
    obtain rfl : j = 0 := by omega
    exact take_all (fun p hp => by cases hp) (by omega)
  | N + 1, h => by
    by_cases he : j = N + 1
    · subst he; exact take_all (fun p hp => ((runs_ok f a (N + 1)).pos p hp).1) (by omega)
    · have h1 := total_mono (f := f) (a := a) (j := j) (N := N) (by omega)
      rw [runsTo]
      split
      · rw [take_push (fun p hp => ((runs_ok f a N).pos p hp).1) h0 (by omega), take_upto h0 hj (by omega)]
      · exact take_upto h0 hj (by omega)
theorem total_take_lt {f : Nat → Bool} {a n : Nat} {m : Int} (h0 : 0 ≤ m) : totalF (takeF (runsTo f a n) m) < m ↔ totalF (runsTo f a n) < m := by
  by_cases h : totalF (runsTo f a n) < m
  · rw [take_all (fun p hp => ((runs_ok f a n).pos p hp).1) (by omega)]
  · obtain ⟨n', h1, h2, h3⟩ := take_runs (f := f) (a := a) (n := n) h0 (by omega)
    rw [h2, h3]
    omega
theorem take_ct : ∀ {l : List Piece} {m : Int}, 0 ≤ m → (∀ p ∈ l, 1 ≤ p.ct ∧ p.ct ≤ 4096) → ∀ p ∈ takeF l m, 0 ≤ p.ct ∧ p.ct ≤ 4096
  | [], _, _, _ => fun p hp => by cases hp
  | q :: l, m, h0, h => fun p hp => by
    have hq := h q (by simp)
    rw [takeF] at hp
    split at hp
    · cases hp
    · rcases List.mem_cons.1 hp with rfl | hp
      · show 0 ≤ min q.ct m ∧ min q.ct m ≤ 4096; omega
      · exact take_ct (l := l) (m := m - min q.ct m) (by omega) (fun x hx => h x (List.mem_cons_of_mem _ hx)) p hp
theorem total_in {f : Nat → Bool} {a n N : Nat} (h : a + n ≤ N) : totalF (runsTo f a n) ≤ N := (may_length (runs_may (f := f) (a := a) (n := n) (N := N) h _ rfl)).2
end room
end Go.Proofs.Ytagjfplipknlkaa
