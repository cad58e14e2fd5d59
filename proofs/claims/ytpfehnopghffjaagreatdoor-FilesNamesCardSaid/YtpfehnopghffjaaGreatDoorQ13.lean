import Derived.Test.YtpfehnopghffjaaGreatDoorQ12
import Derived.Laws.StructEq
import Derived.Test.YtpfehnopghffjaaGreatDoorQ05
import Derived.Defers
import Derived.Test.YtpfehnopghffjaaGreatDoorQ10
import Derived.RangeFuncRecord
import Derived.RangeFuncSeq
import Derived.RangeFuncCalls
import Derived.TacticsIn
set_option linter.unusedVariables false
set_option linter.unusedSimpArgs false
set_option maxRecDepth 20000
/-
  Layer 3, plain: how often each sector is in pieces; pieces compared as values.
-/
namespace Go.Proofs.YtpfehnopghffjaaGreatDoor
open Go room
theorem Ev.neA {P : Program} {e : Env} {w : World} {x y : Operand} {T T' : TypeId} {xs ys : List Value} {q : Bool} (hx : look e x = some (.agg xs.toArray)) (hy : look e y = some (.agg ys.toArray)) (hm : P.eqGuardType P.depth T = false) (hq : ∀ w, (Op.equalIn 10000 T (.agg xs.toArray) (.agg ys.toArray)).run P w = .ok q w) : Ev P e (.binOp .neq T x y T') w (.bool (!q)) :=
  fun w' _ ρ hρ o ho => by
    simp [execOp, ho, hρ _ _ hx, hρ _ _ hy, run_eqGuard_agg, hm, run_neq_struct, hq]
theorem part_one {P : Program} {T : TypeId} {d : TypeDesc} (hT : P.underlying T = some d) (hd : aggD d = false) {cs : List Value} {o : Nat} {v : Value} (hv : cs[o]? = some v) (w : World) : (part T cs.toArray o).run P w = .ok v w := by
  simp [part, isAgg_run hT, hd, hv]
theorem piece_eq (a b : Piece) (w : World) : (Op.equalIn 10000 40 (.agg #[i64 a.fr, i64 a.ct]) (.agg #[i64 b.fr, i64 b.ct])).run Tryz.prog w = .ok (decide (a = b)) w := by
  have hf : Tryz.prog.underlying 40 = some (.struct (Tryz.prog.fieldsOf 40)) := by unfold Program.fieldsOf; rw [Tryz.underlying40]
  rw [run_equalIn_agg (P := Tryz.prog) w 9999 40 _ _ hf (by kernel_rfl)]
  have p0 : ∀ (c : Piece), (part 3 #[i64 c.fr, i64 c.ct] 0).run Tryz.prog = fun w => .ok (i64 c.fr) w := fun c => funext fun w => part_one (cs := [_, _]) Tryz.underlying3 rfl rfl w
  have p1 : ∀ (c : Piece), (part 3 #[i64 c.fr, i64 c.ct] 1).run Tryz.prog = fun w => .ok (i64 c.ct) w := fun c => funext fun w => part_one (cs := [_, _]) Tryz.underlying3 rfl rfl w
  have e2 : ∀ x y : Int, (Op.equalIn 9999 3 (i64 x) (i64 y)).run Tryz.prog = fun w => .ok (decide (x = y)) w := fun x y => funext fun w => by
    have := run_equalIn_int (P := Tryz.prog) w 9998 3 .i64 .i64 x y Tryz.underlying3
    rw [this]
    by_cases h : x = y <;> simp [h]
  unfold Program.fieldsOf
  rw [Tryz.underlying40]
  obtain ⟨af, ac⟩ := a
  obtain ⟨bf, bc⟩ := b
  have q0 := p0 ⟨af, ac⟩; have q0' := p0 ⟨bf, bc⟩
  have q1 := p1 ⟨af, ac⟩; have q1' := p1 ⟨bf, bc⟩
  simp only at q0 q0' q1 q1'
  simp only [Op.eqFields, Sem.run_bind, Sem.run_ite, Sem.run_pure, q0, q0', q1, q1', e2, Result.andThen_ok, Piece.mk.injEq]
  by_cases h0 : af = bf <;> by_cases h1 : ac = bc <;> simp [h0, h1]
namespace room
def inP (p : Piece) (k : Nat) : Int := if p.fr ≤ (k : Int) ∧ (k : Int) < p.fr + p.ct then 1 else 0
def cnt : List Piece → Nat → Int
  | [], _ => 0
  | p :: l, k => inP p k + cnt l k
theorem inP_bd (p : Piece) (k : Nat) : 0 ≤ inP p k ∧ inP p k ≤ 1 := by unfold inP; split <;> omega
theorem cnt_append (a b : List Piece) (k : Nat) : cnt (a ++ b) k = cnt a k + cnt b k := by
  induction a with
  | nil => simp [cnt]
  | cons p a ih => simp only [List.cons_append, cnt, ih]; omega
theorem cnt_bd (l : List Piece) (k : Nat) : 0 ≤ cnt l k ∧ cnt l k ≤ l.length := by
  induction l with
  | nil => simp [cnt]
  | cons p l ih => have := inP_bd p k; simp only [cnt, List.length_cons]; omega
theorem cnt_take {l : List Piece} {i : Nat} (h : i < l.length) (k : Nat) : cnt (l.take (i + 1)) k = cnt (l.take i) k + inP l[i] k := by
  rw [List.take_succ_eq_append_getElem h, cnt_append]; simp [cnt]
theorem cnt_apart : ∀ {l : List Piece}, l.Pairwise apart → ∀ k, cnt l k = if covB l k = true then 1 else 0
  | [], _, k => rfl
  | p :: l, h, k => by
    obtain ⟨h1, h2⟩ := List.pairwise_cons.1 h
    have ih := cnt_apart h2 k
    rw [cnt, ih, show covB (p :: l) k = (decide (p.fr ≤ (k : Int) ∧ (k : Int) < p.fr + p.ct) || covB l k) from by simp [covB]]
    unfold inP
    by_cases hp : p.fr ≤ (k : Int) ∧ (k : Int) < p.fr + p.ct
    · have hn : covB l k = false := covB_false (fun q hq hh => by have := h1 q hq; unfold apart at this; omega)
      rw [if_pos hp, hn, decide_eq_true hp]; rfl
    · rw [if_neg hp, decide_eq_false hp, Bool.false_or, Int.zero_add]
theorem apart_of_sep {l : List Piece} (h : l.Pairwise (fun p q => p.fr + p.ct < q.fr)) : l.Pairwise apart := h.imp (fun h => .inl (Int.le_of_lt h))
/-- a row of numbers -/
def rowM (n : Nat) (f : Nat → Int) : List Value := (List.range n).map (fun k => i64 (f k))
theorem rowM_len (n : Nat) (f : Nat → Int) : (rowM n f).length = n := by simp [rowM]
theorem rowM_get {n : Nat} (f : Nat → Int) {k : Nat} (h : k < n) : (rowM n f)[k]? = some (i64 (f k)) := by simp [rowM, h]
theorem rowM_congr {n : Nat} {f g : Nat → Int} (h : ∀ k, k < n → f k = g k) : rowM n f = rowM n g := by
  unfold rowM
  exact List.map_congr_left (fun k hk => by rw [h k (List.mem_range.1 hk)])
theorem rowM_set {n m : Nat} {f : Nat → Int} {x : Int} (hm : m < n) : (rowM n f).set m (i64 x) = rowM n (fun k => if k = m then x else f k) := by
  apply List.ext_getElem
  · simp [rowM]
  · intro k h1 h2
    simp only [rowM, List.length_set, List.length_map, List.length_range] at h1
    rw [List.getElem_set]
    simp only [rowM, List.getElem_map, List.getElem_range]
    by_cases hk : m = k
    · subst hk; rw [if_pos rfl, if_pos rfl]
    · rw [if_neg hk, if_neg (fun h => hk h.symm)]
theorem rowM_zero (n : Nat) : List.replicate n (i64 0) = rowM n (fun _ => 0) := by
  apply List.ext_getElem
  · simp [rowM]
  · intro k h1 h2; simp [rowM]
end room
end Go.Proofs.YtpfehnopghffjaaGreatDoor
/-
  Package docketlaw03: pieces compared, what is free, marks.
-/
namespace Go.Proofs.YtpfehnopghffjaaGreatDoor
open Go room
namespace room
def twoP : List Piece := [⟨3, 2⟩, ⟨7, 1⟩]
def aliveP : List Piece := [⟨2, 1⟩, ⟨5, 2⟩, ⟨8, 2⟩]
theorem alive_e : freeE 2 10 twoP = 0 := by decide
theorem alive_l : freeL 2 10 twoP = aliveP := by decide
end room
end Go.Proofs.YtpfehnopghffjaaGreatDoor
/-
  RoomWhole: each sector is either free or in a piece.
-/
namespace Go.Proofs.YtpfehnopghffjaaGreatDoor
open Go room
namespace room
/-- a free list's runs -/
theorem free_runs {f n : Nat} {l : List Piece} (h : f ≤ n) : Runs (fun k => !covB l k) f (n - f) (freeF f n l) := runs_ok _ _ _
theorem whole {f n : Nat} {l : List Piece} (hf : f ≤ n) (hm : mayP (n : Int) l) {i : Nat} (hi : i < n) : (cnt l i + cnt (freeF f n l) i ≤ 1) ∧ (f ≤ i → cnt l i + cnt (freeF f n l) i = 1) := by
  have R := free_runs (l := l) hf
  rw [cnt_apart hm.2, cnt_apart (apart_of_sep R.sep), R.cov i]
  by_cases h1 : f ≤ i
  · rw [decide_eq_true (show f ≤ i ∧ i < f + (n - f) by omega)]
    cases covB l i <;> simp
  · rw [decide_eq_false (show ¬ (f ≤ i ∧ i < f + (n - f)) by omega)]
    cases covB l i <;> simp [h1]
end room
end Go.Proofs.YtpfehnopghffjaaGreatDoor
/-
  Layer 3, plain: sums over the sectors; the first free ones; pieces put together are the same sectors.
-/
namespace Go.Proofs.YtpfehnopghffjaaGreatDoor
open Go
namespace room
def sumN (f : Nat → Int) : Nat → Int
  | 0 => 0
  | n + 1 => sumN f n + f n
theorem sumN_congr {f g : Nat → Int} : ∀ {n : Nat}, (∀ k, k < n → f k = g k) → sumN f n = sumN g n
  | 0, _ => rfl
  | n + 1, h => by rw [sumN, sumN, sumN_congr (fun k hk => h k (by omega)), h n (by omega)]
theorem sumN_add (f g : Nat → Int) : ∀ n, sumN (fun k => f k + g k) n = sumN f n + sumN g n
  | 0 => rfl
  | n + 1 => by rw [sumN, sumN, sumN, sumN_add f g n]; omega
theorem sumN_le {f : Nat → Int} : ∀ {n : Nat}, (∀ k, k < n → f k ≤ 1) → sumN f n ≤ n
  | 0, _ => by simp [sumN]
  | n + 1, h => by have := sumN_le (f := f) (n := n) (fun k hk => h k (by omega)); have := h n (by omega); rw [sumN]; omega
theorem sum_in {p : Piece} (h0 : 0 ≤ p.fr) (h1 : 0 ≤ p.ct) : ∀ n : Nat, sumN (inP p) n = max 0 (min (n : Int) (p.fr + p.ct) - p.fr)
  | 0 => by rw [sumN]; omega
  | n + 1 => by
    rw [sumN, sum_in h0 h1 n]
    unfold inP
    split <;> omega
theorem total_sum {n : Nat} : ∀ {l : List Piece}, (∀ p ∈ l, okP (n : Int) p) → totalF l = sumN (cnt l) n
  | [], _ => by
    rw [totalF]
    induction n with
    | zero => rfl
    | succ n ih => rw [sumN, ← ih (fun p hp => by cases hp)]; rfl
  | p :: l, h => by
    have h0 := h p (by simp)
    unfold okP at h0
    rw [totalF, total_sum (fun q hq => h q (List.mem_cons_of_mem _ hq)), show cnt (p :: l) = fun k => inP p k + cnt l k from rfl, sumN_add, sum_in (by omega) (by omega)]
    omega
theorem total_ge : ∀ {l : List Piece}, (∀ p ∈ l, 1 ≤ p.ct) → (l.length : Int) ≤ totalF l
  | [], _ => by simp [totalF]
  | p :: l, h => by
    have h0 := h p (by simp)
    have := total_ge (l := l) (fun q hq => h q (List.mem_cons_of_mem _ hq))
    simp only [totalF, List.length_cons]; omega
/-- pieces that may be are no more than there are sectors -/
theorem may_length {n : Nat} {l : List Piece} (h : mayP (n : Int) l) : l.length ≤ n ∧ totalF l ≤ n := by
  have h1 := total_ge (l := l) (fun p hp => (h.1 p hp).1)
  have h2 := total_sum h.1
  have h3 := sumN_le (f := cnt l) (n := n) (fun k _ => by rw [cnt_apart h.2]; split <;> omega)
  omega
theorem total_push (out : List Piece) (k : Int) : totalF (pushR out k) = totalF out + 1 := by
  rcases List.eq_nil_or_concat out with h | ⟨o, q, h⟩
  · subst h; rfl
  · rw [List.concat_eq_append] at h
    subst h
    rw [push_snoc]
    split
    · rw [total_append, total_append]; simp only [totalF]; omega
    · rw [total_append, total_append]; simp only [totalF]; omega
theorem take_append : ∀ {o r : List Piece} {m : Int}, (∀ p ∈ o, 1 ≤ p.ct) → totalF o ≤ m → takeF (o ++ r) m = o ++ takeF r (m - totalF o)
  | [], r, m, _, _ => by simp [totalF]
  | p :: o, r, m, h, hm => by
    have h0 := h p (by simp)
    have h1 := total_pos (l := o) (fun q hq => h q (List.mem_cons_of_mem _ hq))
    simp only [totalF] at hm
    rw [List.cons_append, takeF, if_neg (by omega), show min p.ct m = p.ct by omega, take_append (fun q hq => h q (List.mem_cons_of_mem _ hq)) (by omega), totalF, show m - p.ct - totalF o = m - (p.ct + totalF o) by omega]
    rfl
theorem take_push {out : List Piece} {k m : Int} (h : ∀ p ∈ out, 1 ≤ p.ct) (h0 : 0 ≤ m) (hm : m ≤ totalF out) : takeF (pushR out k) m = takeF out m := by
  rcases List.eq_nil_or_concat out with e | ⟨o, q, e⟩
  · subst e
    have : m = 0 := by simp only [totalF] at hm; omega
    subst this; rfl
  · rw [List.concat_eq_append] at e
    subst e
    rw [push_snoc]
    split
    · have ho : ∀ p ∈ o, 1 ≤ p.ct := fun p hp => h p (by simp [hp])
      by_cases hc : m ≤ totalF o
      · rw [take_more ho h0 hc, take_more ho h0 hc]
      · rw [total_append] at hm
        simp only [totalF] at hm
        rw [take_append ho (by omega), take_append ho (by omega)]
        simp only [takeF]
        rw [if_neg (by omega), if_neg (by omega), show min (q.ct + 1) (m - totalF o) = m - totalF o by omega, show min q.ct (m - totalF o) = m - totalF o by omega]
    · exact take_more h h0 hm
/-- what is taken of runs are the runs up to some sector -/
theorem take_runs {f : Nat → Bool} {a : Nat} : ∀ {n : Nat} {m : Int}, 0 ≤ m → m ≤ totalF (runsTo f a n) → ∃ n', n' ≤ n ∧ takeF (runsTo f a n) m = runsTo f a n' ∧ totalF (runsTo f a n') = m
  | 0, m, h0, hm => ⟨0, Nat.le_refl _, rfl, by simp only [runsTo, totalF] at hm ⊢; omega⟩
  | n + 1, m, h0, hm => by
    have hp := (runs_ok f a n).pos
    by_cases hf : f (a + n) = true
    · by_cases he : m = totalF (runsTo f a (n + 1))
      · exact ⟨n + 1, Nat.le_refl _, take_all (fun p hp => ((runs_ok f a (n + 1)).pos p hp).1) (by omega), he.symm⟩
      · rw [runsTo, if_pos hf] at he hm ⊢
        rw [total_push] at he hm
        obtain ⟨n', h1, h2, h3⟩ := take_runs (f := f) (a := a) (n := n) h0 (by omega)
        exact ⟨n', by omega, by rw [take_push (fun p h => (hp p h).1) h0 (by omega), h2], h3⟩
    · rw [runsTo, if_neg hf] at hm ⊢
      obtain ⟨n', h1, h2, h3⟩ := take_runs (f := f) (a := a) (n := n) h0 hm
      exact ⟨n', by omega, h2, h3⟩
/-- runs in so many sectors may be -/
theorem runs_may {f : Nat → Bool} {a n N : Nat} (h : a + n ≤ N) (l : List Piece) (he : l = runsTo f a n) : mayP (N : Int) l := by
  subst he
  have R := runs_ok f a n
  refine ⟨fun p hp => ?_, apart_of_sep R.sep⟩
  obtain ⟨h1, h2, h3⟩ := R.pos p hp
  unfold okP; omega
/-- pieces and runs of what they leave -/
theorem both_may {l : List Piece} {a n N : Nat} (h : a + n ≤ N) (hm : mayP (N : Int) l) : mayP (N : Int) (l ++ runsTo (fun k => !covB l k) a n) := by
  have R := runs_ok (fun k => !covB l k) a n
  have hr := runs_may (f := fun k => !covB l k) h _ rfl
  refine ⟨fun p hp => ?_, List.pairwise_append.2 ⟨hm.2, hr.2, fun p hp q hq => ?_⟩⟩
  · rcases List.mem_append.1 hp with hp | hp
    · exact hm.1 p hp
    · exact hr.1 p hp
  · refine Decidable.byContradiction fun hn => ?_
    have h1 := hm.1 p hp
    have h2 := hr.1 q hq
    unfold okP at h1 h2
    unfold apart at hn
    have hk : ∃ k : Nat, (k : Int) = max p.fr q.fr := ⟨(max p.fr q.fr).toNat, by omega⟩
    obtain ⟨k, hk⟩ := hk
    have c1 : covB l k = true := cov_iff.2 ⟨p, hp, by omega, by omega⟩
    have c2 : covB (runsTo (fun k => !covB l k) a n) k = true := cov_iff.2 ⟨q, hq, by omega, by omega⟩
    rw [R.cov k, c1] at c2
    simp at c2
/-- behind what is taken -/
theorem rest_behind {l : List Piece} {a n n' : Nat} (hn : n' ≤ n) {r q : Piece} (hr : r ∈ runsTo (fun k => !covB (l ++ runsTo (fun k => !covB l k) a n') k) a n) (hq : q ∈ runsTo (fun k => !covB l k) a n') : q.fr + q.ct ≤ r.fr := by
  obtain ⟨r1, r2, r3⟩ := (runs_ok (fun k => !covB (l ++ runsTo (fun k => !covB l k) a n') k) a n).pos r hr
  obtain ⟨q1, q2, q3⟩ := (runs_ok (fun k => !covB l k) a n').pos q hq
  obtain ⟨k, hk⟩ : ∃ k : Nat, (k : Int) = r.fr := ⟨r.fr.toNat, by omega⟩
  have c1 : covB (runsTo (fun k => !covB (l ++ runsTo (fun k => !covB l k) a n') k) a n) k = true := cov_iff.2 ⟨r, hr, by omega, by omega⟩
  rw [(runs_ok _ a n).cov k] at c1
  simp only [Bool.and_eq_true, decide_eq_true_eq] at c1
  obtain ⟨c2, c3⟩ := c1
  rw [cov_append, Bool.not_eq_true', Bool.or_eq_false_iff, (runs_ok _ a n').cov k] at c3
  obtain ⟨c4, c5⟩ := c3
  rw [c4] at c5
  simp only [Bool.not_false, Bool.and_true, decide_eq_false_iff_not] at c5
  omega
/-- pieces put together -/
theorem join_cov {l : List Piece} (h : mayP 4096 l) : covB (joinF l) = covB l := by
  funext k
  unfold joinF
  rw [(runs_ok (covB l) 0 4096).cov k]
  by_cases hk : k < 4096
  · rw [decide_eq_true (show 0 ≤ k ∧ k < 0 + 4096 by omega), Bool.true_and]
  · rw [decide_eq_false (show ¬ (0 ≤ k ∧ k < 0 + 4096) by omega), Bool.false_and]
    exact (covB_false (fun p hp hh => by have := h.1 p hp; unfold okP at this; omega)).symm
theorem join_may (l : List Piece) : mayP 4096 (joinF l) := runs_may (N := 4096) (f := covB l) (a := 0) (n := 4096) (by omega) _ rfl
theorem join_check (l : List Piece) : checkR 4096 (joinF l) = 0 := check_0 (by decide) (by have := joinF_length l; omega) (join_may l)
theorem join_join {l : List Piece} (h : mayP 4096 l) : joinF (joinF l) = joinF l := by
  show runsTo (covB (joinF l)) 0 4096 = runsTo (covB l) 0 4096
  rw [join_cov h]
theorem join_cnt {l : List Piece} (h : mayP 4096 l) (k : Nat) : cnt (joinF l) k = cnt l k := by
  rw [cnt_apart (join_may l).2, cnt_apart h.2, join_cov h]
theorem join_total {l : List Piece} (h : mayP 4096 l) : totalF (joinF l) = totalF l := by
  rw [total_sum (n := 4096) (join_may l).1, total_sum (n := 4096) h.1]
  exact sumN_congr (fun k _ => join_cnt h k)
end room
end Go.Proofs.YtpfehnopghffjaaGreatDoor
/-
  RoomFirst: what is taken was free, as many as asked, the first ones.
-/
namespace Go.Proofs.YtpfehnopghffjaaGreatDoor
open Go room
namespace room
theorem check_not30 (c : Int) (l : List Piece) : ¬ checkR c l = 30 := by
  unfold checkR
  split
  · decide
  · split
    · decide
    · split <;> decide
theorem take_30 {first count : Int} {l : List Piece} {many : Int} (h : takeE first count l many = 30) : freeE first count l = 0 ∧ totalF (freeL first count l) < many := by
  unfold takeE at h
  split at h
  · cases h
  · split at h
    · rename_i hn
      unfold freeE at h
      split at h
      · cases h
      · exact absurd h (check_not30 _ _)
    · rename_i hn
      split at h
      · rename_i h2; exact ⟨Decidable.not_not.1 hn, h2⟩
      · cases h
theorem take_in {first count : Int} {l : List Piece} {many : Int} (h : takeE first count l many = 0) : 0 ≤ many ∧ many ≤ 4096 ∧ freeE first count l = 0 ∧ many ≤ totalF (freeL first count l) := by
  unfold takeE at h
  split at h
  · cases h
  · rename_i h1
    split at h
    · rename_i hn; exact absurd h hn
    · rename_i hn
      split at h
      · cases h
      · rename_i h2; exact ⟨by omega, by omega, Decidable.not_not.1 hn, by omega⟩
theorem takeL_runs {f n : Nat} {l : List Piece} {many : Int} (h : takeE (f : Int) (n : Int) l many = 0) : ∃ n', f + n' ≤ n ∧ takeL (f : Int) (n : Int) l many = runsTo (fun k => !covB l k) f n' ∧ totalF (takeL (f : Int) (n : Int) l many) = many := by
  obtain ⟨h1, h2, h3, h4⟩ := take_in h
  obtain ⟨i1, i2, i3, _⟩ := freeE_in h3
  have hF : freeL (f : Int) (n : Int) l = runsTo (fun k => !covB l k) f (n - f) := freeL_ok h3
  rw [hF] at h4
  obtain ⟨n', a1, a2, a3⟩ := take_runs h1 h4
  refine ⟨n', by omega, ?_, ?_⟩
  · rw [takeL_ok h, hF, a2]
  · rw [takeL_ok h, hF, a2, a3]
end room
end Go.Proofs.YtpfehnopghffjaaGreatDoor
/-
  Calls that are put off till a function leaves; results that lie in cells of one part. No program in sight.
-/
namespace Go.Proofs.YtpfehnopghffjaaGreatDoor
open Go

/-- the frame with one more call put off -/
def Fr.off (F : Fr) (d : Deferred) : Fr := ⟨F.P, ⟨F.z.n, d :: F.z.D⟩, F.R⟩
theorem post_off (F : Fr) (d : Deferred) : ∀ k : List It, post (F.off d) k = post F k
  | [] => rfl
  | .code c :: k => by simp only [post, post_off F d k]; rfl
  | .blk id :: k => by simp only [post, post_off F d k]
  | .inv J :: k => by simp only [post, post_off F d k]
  | .sco :: k => by simp only [post, post_off F d k]
section
variable {F : Fr} {e : Env} {k : List It} {w : World} {all rest : List Oper} {d : Nat} {op : Op} {ty : TypeId} {pos : String} {af : Array Edge} {g : Option (Nat × Bool)}
/-- a call that is put off -/
theorem O.defer {c : Operand} {f : FuncId} {xs : List Operand} {ats : Array TypeId} {vs captured : List Value} (hg : gd e all g = some true)
    (hf : look e c = some (.func (.func f) #[] captured.toArray)) (hx : xs.mapM (look e) = some vs)
    (next : O (F.off ⟨.fn (.func f) captured.toArray, vs.toArray⟩) e all rest k w) :
    O F e all (⟨none, .defer { callee := .value c, args := xs.toArray, argTypes := ats }, ty, pos, af, g⟩ :: rest) k w := by
  intro w' hw a ha
  refine wpList_step fun K hK => ?_
  rw [if_pos (gd_wanted ha hg)]
  unfold Oper.wp
  have hr : (execOp a.eval ⟨none, .defer { callee := .value c, args := xs.toArray, argTypes := ats }, ty, pos, af, g⟩).run F.P w' = .ok (.defer ⟨.fn (.func f) captured.toArray, vs.toArray⟩) w' := by
    have h1 := ha.ev hf
    have h2 := look_args (fun x u hx => ha.ev hx) xs vs hx
    simp [execOp, resolve, Deferred.ofValue, h1, h2, Sem.run_bind]
  rw [hr, Oper.upon_defer]
  refine hK _ _ ?_
  have := next w' hw { a with defers := ⟨.fn (.func f) captured.toArray, vs.toArray⟩ :: a.defers } ⟨by show _ :: a.defers = _; rw [ha.1]; rfl, ha.2.1, ha.2.2⟩
  rw [post_off] at this
  exact this
end
/-- a function's contract where it is called on the way out -/
def FnD (P : Program) (f : FuncId) (args : List Value) (w : World) (Post : Value → World → Prop) : Prop :=
  (∀ w', (callFunc f args.toArray).run P w' = .ok (.enter f args.toArray) w') ∧ ∀ w', Same w w' → ∀ u, CallsD P f args.toArray u w' (fun e u' w2 => u' = u ∧ Ret Post e w2)
theorem FnD.enter {P : Program} {f : FuncId} {fn : Func} {c : Code} {args : List Value} {w : World} {Post : Value → World → Prop}
    (hc : ∀ w', (callFunc f args.toArray).run P w' = .ok (.enter f args.toArray) w') (hf : P.funcs[f]? = some fn) (hb : fn.body = some c)
    (h : G ⟨P, ⟨fn.ntmps, []⟩, bodyPost P fn (Ret Post)⟩ (argEnv 0 args) c [] w) : FnD P f args w Post := by
  refine ⟨hc, fun w' hw u => callsD_of_wp hf hb (h w' hw _ ⟨rfl, ?_, ?_⟩)⟩
  · simp; omega
  · intro t v ht
    obtain ⟨_, h2⟩ := argEnv_get args 0 t v ht
    simp only [Nat.sub_zero] at h2
    have hlt : t < args.length := (List.getElem?_eq_some_iff.1 h2).1
    rw [Array.getD_eq_getD_getElem?, Array.getElem?_append_left (by simpa using hlt)]
    simp [h2]
/-- a function that puts calls off -/
theorem Fn.enterD {P : Program} {f : FuncId} {fn : Func} {c : Code} {args : List Value} {w : World} {Post : Value → World → Prop}
    (hc : ∀ w', (callFunc f args.toArray).run P w' = .ok (.enter f args.toArray) w') (hf : P.funcs[f]? = some fn) (hb : fn.body = some c)
    (h : G ⟨P, ⟨fn.ntmps, []⟩, bodyPostD P fn (Ret Post)⟩ (argEnv 0 args) c [] w) : Fn P f args w Post := by
  refine ⟨hc, fun w' hw => calls_of_wp_defers hf hb (h w' hw _ ⟨rfl, ?_, ?_⟩)⟩
  · simp; omega
  · intro t v ht
    obtain ⟨_, h2⟩ := argEnv_get args 0 t v ht
    simp only [Nat.sub_zero] at h2
    have hlt : t < args.length := (List.getElem?_eq_some_iff.1 h2).1
    rw [Array.getD_eq_getD_getElem?, Array.getElem?_append_left (by simpa using hlt)]
    simp [h2]
/-- results, in slots or in cells of one part -/
inductive ResC (P : Program) (e : Env) (w : World) : List ResultVar → List Value → Prop where
  | nil : ResC P e w [] []
  | tmp {t : Nat} {v : Value} {r : List ResultVar} {vs : List Value} : e.get t = some v → ResC P e w r vs → ResC P e w (.tmp t :: r) (v :: vs)
  | cell {a : Nat} {p : Addr} {v : Value} {T : TypeId} {d : TypeDesc} {r : List ResultVar} {vs : List Value} : e.get a = some (.pointer (some p)) → P.underlying T = some d → aggD d = false → w.cell? p = some v → ResC P e w r vs →
      ResC P e w (.cell a T :: r) (v :: vs)
theorem ResC.run {P : Program} {e : Env} {w w' : World} {n : Sz} {a : Act} (hw : Same w w') (ha : ∀ t v, e.get t = some v → a.tmps.getD t undef = v) (f : ResultVar → Sem Value) (hf : ∀ t, f (.tmp t) = pure (a.tmps.getD t undef)) (hc : ∀ c T, f (.cell c T) = (do loadVar T (← asAddr (a.tmps.getD c undef)))) {l : List ResultVar} {vs : List Value} (h : ResC P e w l vs) :
    (l.mapM f).run P w' = .ok vs w' := by
  induction h with
  | nil => rfl
  | tmp h1 _ ih =>
    have := ha _ _ h1
    simp [List.mapM_cons, hf, this, ih]
  | cell h1 hT hd hcs _ ih =>
    have := ha _ _ h1
    have hl := (hw.cell _).trans hcs
    simp [List.mapM_cons, hc, this, ih, asAddr, loadVar, isAgg_run hT, hd, hl]
theorem results_c {P : Program} {e : Env} {w w' : World} {a : Act} {fn : Func} {vs : List Value} (hw : Same w w') (ha : ∀ t v, e.get t = some v → a.tmps.getD t undef = v) (h : ResC P e w fn.results.toList vs) : (results fn a.tmps).run P w' = .ok (outV vs) w' := by
  unfold results
  rw [Sem.run_bind, Array.mapM_eq_mapM_toList]
  rw [Sem.run_map, h.run (n := ⟨0, []⟩) hw ha _ (fun t => by rfl) (fun c T => by rfl)]
  simp only [Result.andThen_ok]
  match vs with
  | [] => rfl
  | [v] => rfl
  | v :: u :: r => simp [outV]
/-- a return of a function that has put one call off -/
theorem G.retD {P : Program} {fn : Func} {n : Nat} {Post Mid : Value → World → Prop} {e : Env} {k : List It} {w : World} {f : FuncId} {captured args : List Value}
    (hd : FnD P f (args ++ captured) w Mid) (hp : ∀ r w2, Mid r w2 → ∃ vs, ResC P e w2 fn.results.toList vs ∧ Post (outV vs) w2) : G ⟨P, ⟨n, [⟨.fn (.func f) captured.toArray, args.toArray⟩]⟩, bodyPostD P fn (Ret Post)⟩ e .ret k w := by
  intro w' hw a ha
  refine wp_ret (post_ret k a w' ?_)
  show Leaves P fn a.tmps (Ret Post) a.defers .returning w'
  rw [ha.1]
  refine leaves_cons (f := f) (args := (args ++ captured).toArray) (by intro h; cases h) ?_ ?_
  · have := hd.1 w'
    simpa [invoke] using this
  · refine (hd.2 w' hw .returning).mono ?_
    rintro en u' w3 ⟨rfl, r, w2, hs, rfl, hm⟩
    obtain ⟨vs, hv, hpo⟩ := hp r w2 hm
    show Leaves P fn a.tmps (Ret Post) [] (settle .returning) w3
    exact ⟨_, results_c hs ha.2.2 hv, _, w2, hs, rfl, hpo⟩
/-- a return of a function that could put a call off and has put none -/
theorem G.retN {P : Program} {fn : Func} {n : Nat} {Post : Value → World → Prop} {e : Env} {k : List It} {w : World} {vs : List Value}
    (hv : ResC P e w fn.results.toList vs) (hp : Post (outV vs) w) : G ⟨P, ⟨n, []⟩, bodyPostD P fn (Ret Post)⟩ e .ret k w := by
  intro w' hw a ha
  refine wp_ret (post_ret k a w' ?_)
  show Leaves P fn a.tmps (Ret Post) a.defers .returning w'
  rw [ha.1]
  exact ⟨_, results_c hw ha.2.2 hv, _, w, hw, rfl, hp⟩
/-- a return whose results lie in cells of one part -/
theorem G.retC {P : Program} {fn : Func} {n : Nat} {Post : Value → World → Prop} {e : Env} {k : List It} {w : World} {vs : List Value}
    (hv : ResC P e w fn.results.toList vs) (hp : Post (outV vs) w) : G ⟨P, ⟨n, []⟩, bodyPost P fn (Ret Post)⟩ e .ret k w :=
  fun w' hw a ha => wp_ret (post_ret k a w' ⟨ha.1, outV vs, results_c hw ha.2.2 hv, outV vs, w, hw, rfl, hp⟩)
end Go.Proofs.YtpfehnopghffjaaGreatDoor
/-
  A range over a function, in the frames of the base text. No program in sight.
-/
namespace Go.Proofs.YtpfehnopghffjaaGreatDoor
open Go

/-! from the plain calculus to a round's -/
theorem rowsIn_of {P : Program} {row : String} {args : Array Value} {w : World} {R : Value → World → Prop} {l n : Nat} (h : Rows P row args w R) : RowsIn (Fence.wide.inRound l) n P row args w R :=
  fun c cs _ => let ⟨v, w', r, s⟩ := h c cs; ⟨v, w', r, (stepsIn_wide (P := P)).2 s⟩
theorem operIn_of {P : Program} {o : Oper} {a : Act} {w : World} {K K' : Act → World → Prop} {Q : Exit → Act → World → Prop} {l n : Nat} (hnd : ∀ c, o.op ≠ .defer c) (hk : ∀ a w, K a w → K' a w) (h : o.wp P a w K Q) : o.wpIn (Fence.wide.inRound l) n P a w K' Q := by
  refine ⟨fun _ _ => trivial, ?_⟩
  show o.uponIn _ n P a K' Q ((o.semAt (some l) a.eval).run P w)
  rw [Oper.semAt_eq _ _ _ hnd]
  unfold Oper.wp at h
  generalize (execOp a.eval o).run P w = r at h
  cases r with
  | ok x w' =>
    cases x with
    | value v => exact hk _ _ h
    | skip => exact hk _ _ h
    | defer d => exact hk _ _ h
    | enter f args =>
      rw [Oper.upon_enter] at h
      refine ⟨(fun h => by cases h), CallsIn.inRound l (callsIn_wide.2 (Calls.mono h ?_))⟩
      intro e w'' he
      cases e with
      | returned v => exact hk _ _ he
      | panicked c => exact he
      | outgrown => exact he
    | row r args =>
      rw [Oper.upon_row] at h
      exact ⟨(fun h => by cases h), rowsIn_of (Rows.mono h (fun v w'' he => hk _ _ he))⟩
    | _ => exact (h : False).elim
  | halt x w' => cases x <;> simp only [Oper.upon] at h <;> simp only [Oper.uponIn] <;> exact h
theorem opsIn_of {P : Program} {ops : Array Oper} {Q : Exit → Act → World → Prop} {l n : Nat} (hno : ¬ LetsOut Q) (hnd : ∀ o ∈ ops.toList, ∀ c, o.op ≠ .defer c) :
    ∀ (is : List Nat) (a : Act) (w : World), wpOps P ops Q is a w → wpOpsIn (Fence.wide.inRound l) n P ops Q is a w
  | [], _, _, h => h
  | i :: rest, a, w, h => by
    simp only [wpOps] at h
    simp only [wpOpsIn]
    cases ho : ops[i]? with
    | none => simp only [ho] at h; exact opsIn_of hno hnd rest a w h
    | some o =>
      simp only [ho] at h
      have hm : o ∈ ops.toList := by
        have := Array.getElem?_toList (xs := ops) (i := i)
        rw [ho] at this
        exact List.mem_of_getElem? this
      by_cases hw : Region.wanted o (yielded ops a.tmps) = true
      · simp only [hw, if_true] at h ⊢
        rcases h with h | h
        · exact operIn_of (hnd o hm) (opsIn_of hno hnd rest) h
        · exact absurd h.2 hno
      · simp only [hw, Bool.false_eq_true, if_false] at h ⊢
        exact ⟨fun _ _ => trivial, opsIn_of hno hnd rest _ w h⟩
def noDefer (l : List Oper) : Bool := l.all (fun o => match o.op with | .defer _ => false | _ => true)
theorem noDefer_of {l : List Oper} (h : noDefer l = true) : ∀ o ∈ l, ∀ c, o.op ≠ .defer c := by
  intro o ho c he
  have := List.all_eq_true.1 h o ho
  rw [he] at this
  cases this
section
variable {F : Fr} {e : Env} {w : World}
/-- a region of a round's -/
theorem roundRegion {id l n : Nat} {ops : List Oper} (hno : ¬ LetsOut F.R) (hd : noDefer ops = true) (h : O F e ops ops [] w) {w' : World} (hw : Same w w') {a : Act} (ha : Ag F.z e a) : (Code.region id ops.toArray false).wpIn (Fence.wide.inRound l) n F.P F.R a w' := by
  have h1 := h w' hw a ha
  refine wpIn_region (opsIn_of hno (by simpa using noDefer_of hd) _ _ _ ?_)
  rw [List.range_eq_range', ← Array.length_toList, wpOps_eq_wpList ops.toArray.toList 0 (by simp)]
  have h2 : wpList F.P ops.toArray F.R ops a w' := h1
  simpa using h2
/-- a region of a round's that draws -/
theorem roundMix {id l n : Nat} {ops : List Oper} (S : Nat → Prop) (al : List Nat) (hm : F.P.follows .mixedOrders = true) (hB : Region.lexB .any ops.toArray = true) (hA : actB .any ops.toArray (fun j => al.contains j) = true)
    (hno : ¬ LetsOut F.R) (hd : noDefer ops = true) (h : M F S w al e ops 0 ops [] w) {w' : World} (hw : Same w w') {a : Act} (ha : Ag F.z e a) : (Code.region id ops.toArray true).wpIn (Fence.wide.inRound l) n F.P F.R a w' := by
  refine wpIn_region_draw fun t => opsIn_of hno (by simpa using noDefer_of hd) _ _ _ ?_
  simp only [Region.schedule, hm, Bool.true_or, if_true]
  refine wpAny_sound _ t _ a _ ?_
  simp only [Region.lexB, Bool.and_eq_true] at hB
  refine wpAny_of_M (C := Ext S w) (act := fun j => al.contains j) (Q := fun a' w' => F.R .normal a' w') (fun _ _ h => h) _ _ _ _ ?_
  have := wpAnyM_lex (C := Ext S w) (md := .any) hB.1 hA ops.toArray.toList 0 (Array.replicate ops.toArray.size false) a _ (by simp) (.inl (.same (hw.trans (same_draw w')))) ⟨by simp, fun j oj hj hl => by rw [getD_replicate_false] at hl; cases hl⟩ (by simpa using hB.2) (show wpMix F.P .any ops.toArray (Ext S w) (fun j => al.contains j) (fun a' w2 => F.R .normal a' w2) ops.toArray.toList 0 a w'.drew from h (.refl _) _ (hw.trans (same_draw w')) a ha)
  simpa using this
end

/-! a region in which yield is called -/
def OI (F : Fr) (e : Env) (all ops : List Oper) (k : List It) (w : World) : Prop := ∀ w', Same w w' → ∀ a, Ag F.z e a → wpListIn Fence.wide 0 F.P all.toArray (post F k) ops a w'
section
variable {F : Fr} {e : Env} {k : List It} {w : World} {all rest : List Oper} {d : Nat} {op : Op} {ty : TypeId} {pos : String} {af : Array Edge} {g : Option (Nat × Bool)}
theorem G.regionI {id : Nat} {l : List Oper} (h : OI F e l l k w) : G F e (.region id l.toArray false) k w := fun w' hw a ha => wpIn_wide.1 (wpIn_region_lit (h w' hw a ha))
theorem OI.nil (h : A F e k w) : OI F e all [] k w := fun w' hw a ha => h w' hw a ha
theorem OI.p {v : Value} (hd : Nat.blt d F.n = true) (hg : gd e all g = some true) (h : Ev F.P e op w v) (next : OI F ((d, v) :: e) all rest k w) : OI F e all (⟨some d, op, ty, pos, af, g⟩ :: rest) k w := by
  intro w' hw a ha
  refine wpListIn_step fun K hK => ?_
  rw [if_pos (gd_wanted ha hg)]
  refine ⟨fun _ _ => trivial, ?_⟩
  show Oper.uponIn _ 0 _ _ a _ _ ((Oper.semAt none a.eval _).run F.P w')
  rw [Oper.semAt_none, h w' (.same hw) a.eval (fun x u hx => ha.ev hx) _ rfl]
  exact hK _ _ (next w' hw _ (ha.put hd v))
theorem OI.yield {c : Operand} {l : Nat} {xs : List Operand} {ats : Array TypeId} {vs : List Value} {Post : Bool → World → Prop} (hd : Nat.blt d F.n = true) (hg : gd e all g = some true)
    (hf : look e c = some (.func (.yield l) #[] #[])) (hx : xs.mapM (look e) = some vs)
    (hc : ∀ w', Same w w' → YieldAt Fence.wide 0 F.P l vs.toArray w' (fun en w3 => ∃ b w2, Same w2 w3 ∧ en = .returned (.bool b) ∧ Post b w2))
    (next : ∀ b w2, Post b w2 → OI F ((d, .bool b) :: e) all rest k w2) :
    OI F e all (⟨some d, .call { callee := .value c, args := xs.toArray, argTypes := ats }, ty, pos, af, g⟩ :: rest) k w := by
  intro w' hw a ha
  refine wpListIn_step fun K hK => ?_
  rw [if_pos (gd_wanted ha hg)]
  refine ⟨fun _ _ => trivial, ?_⟩
  show Oper.uponIn _ 0 _ _ a _ _ ((Oper.semAt none a.eval _).run F.P w')
  rw [Oper.semAt_none]
  obtain ⟨fn, tmps, asg, body, hy, hR⟩ := hc w' hw
  have h1 := ha.ev hf
  have h2 := look_args (fun x u hx => ha.ev hx) xs vs hx
  have hr : (execOp a.eval ⟨some d, .call { callee := .value c, args := xs.toArray, argTypes := ats }, ty, pos, af, g⟩).run F.P w' = (Instr.yield l vs.toArray).run F.P w' := by
    simp [execOp, resolve, Deferred.ofValue, h1, h2, invoke, Sem.run_bind]
  rw [hr, hy, Oper.uponIn_round]
  refine ⟨(fun h => by cases h), hR.mono ?_⟩
  rintro en w3 ⟨b, w2, hs, rfl, hp⟩
  exact hK _ _ (next b w2 hp w3 hs _ (ha.put hd (.bool b)))
end

/-! the statement -/
/-- the record of a range over a function -/
def recOf (fn : FuncId) (tmps : Array Value) (ps : Array Tmp) (assign body : Code) (D : Nat) (st : LoopState) : Obj := .loop { state := st, pending := none, fn, tmps, params := ps, assign, body, defers := D }
/-- between two rounds: the record is ready, the block for the calls that are put off is empty, and so on as J says -/
def Between (fn : FuncId) (tmps : Array Value) (ps : Array Tmp) (assign body : Code) (D : Nat) (J : World → Prop) (W : World) : Prop :=
  ∃ W0, Same W0 W ∧ W0.heap[D + 1]? = some (recOf fn tmps ps assign body D .ready) ∧ W0.heap[D]? = some (.deferred (some [])) ∧ J W0
theorem Same.putObj {w w' : World} (h : Same w w') (r : Nat) (o : Obj) : Same (w.putObj r o) (w'.putObj r o) := ⟨by simp [World.putObj, h.heap], h.os, h.tape, h.output⟩
theorem Same.at {w w' : World} (h : Same w w') (k : Nat) : w'.heap[k]? = w.heap[k]? := by rw [h.heap]
theorem Ext.putObj {S : Nat → Prop} (w : World) {r : Nat} (hr : S r) (o : Obj) : Ext S w (w.putObj r o) :=
  ⟨rfl, rfl, rfl, by simp, fun k hk hs => World.putObj_heap_other (fun e => hs (e ▸ hr))⟩
/-- one round: what the body's walk must come to -/
theorem yield_round {F : Fence} {P : Program} {fn : FuncId} {tmps : Array Value} {ps : Array Tmp} {assign body : Code} {D : Nat} {args : Array Value} {J J' : World → Prop} {W : World}
    (hF : F = Fence.wide) (hb : Between fn tmps ps assign body D J W) (hs : args.size = ps.size)
    (hbody : ∀ W0 W', Same W0 W' → W0.heap[D + 1]? = some (recOf fn tmps ps assign body D .ready) → W0.heap[D]? = some (.deferred (some [])) → J W0 →
      assign.wpIn (Fence.wide.inRound (D + 1)) 0 P (Exit.then (fun a₁ w₁ => Same W0 w₁ ∧ ∀ W2, Same (W0.putObj (D + 1) (recOf fn tmps ps assign body D .busy)) W2 →
        body.wpIn (Fence.wide.inRound (D + 1)) 0 P (fun ex _ w3 => ex = .normal ∧ ∃ W3, Same W3 w3 ∧ W3.heap[D + 1]? = some (recOf fn tmps ps assign body D .busy) ∧ W3.heap[D]? = some (.deferred (some [])) ∧ J' (W3.putObj (D + 1) (recOf fn tmps ps assign body D .ready))) a₁ W2) (fun _ _ _ => False))
        { tmps := (ps.zip args).foldl (fun t (p, v) => t.setIfInBounds p v) tmps, defers := [] } W') :
    YieldAt Fence.wide 0 P (D + 1) args W (fun en w3 => en = .returned (.bool true) ∧ Between fn tmps ps assign body D J' w3) := by
  obtain ⟨W0, hW, hl, hk, hJ⟩ := hb
  have hl' : W.heap[D + 1]? = some (recOf fn tmps ps assign body D .ready) := (hW.at _).trans hl
  refine ⟨fn, _, assign, body, run_yield (P := P) hl' hs, roundIn_of_wpIn trivial (wpIn_mono (hbody W0 W hW hl hk hJ) ?_)⟩
  rintro ex a₁ w₁ hq
  cases ex with
  | normal =>
    obtain ⟨hs1, hq⟩ := hq
    refine ⟨_, run_beginRound ((hs1.at _).trans hl) rfl, wpIn_mono (hq _ (hs1.putObj _ _)) ?_⟩
    rintro ex a3 w3 ⟨rfl, W3, hs3, hl3, hk3, hJ3⟩
    have hl3' : w3.heap[D + 1]? = some (recOf fn tmps ps assign body D .busy) := (hs3.at _).trans hl3
    refine ⟨_, _, run_endRound none hl3', rfl, _, hs3.putObj _ _, World.putObj_heap_same (Array.getElem?_eq_some_iff.1 hl3).1, (World.putObj_heap_other (by omega)).trans hk3, hJ3⟩
  | exit _ => exact hq.elim
  | goto _ => exact hq.elim
  | ret => exact hq.elim
  | panic _ => exact hq.elim
  | outgrown => exact hq.elim
theorem Between.blk {fn : FuncId} {tmps : Array Value} {ps : Array Tmp} {assign body : Code} {D : Nat} {J : World → Prop} {W : World} {b : Nat} {E : TypeId} {cs : List Value} (h : Between fn tmps ps assign body D J W) (hJ : ∀ W, J W → Blk W b E cs) : Blk W b E cs := by
  obtain ⟨W0, hs, _, _, h0⟩ := h
  exact (hJ W0 h0).keep (by rw [hs.heap])
theorem Between.same {fn : FuncId} {tmps : Array Value} {ps : Array Tmp} {assign body : Code} {D : Nat} {J : World → Prop} {W W' : World} (h : Between fn tmps ps assign body D J W) (hs : Same W W') : Between fn tmps ps assign body D J W' := by
  obtain ⟨W0, hs0, h1, h2, h3⟩ := h
  exact ⟨W0, hs0.trans hs, h1, h2, h3⟩
/-- a round whose parameter is handed to a variable, and whose body is one region that draws -/
theorem yield_mix {P : Program} {n D p : Nat} {e : Env} {fn : FuncId} {tmps : Array Value} {v : Value} {i1 i2 bid : Nat} {ops1 ops2 : List Oper} {J J' : World → Prop} {W : World} (hag : Ag ⟨n, []⟩ e ⟨tmps, []⟩) (hp : Nat.blt p n = true)
    (hb : Between fn tmps #[p] (.region i1 ops1.toArray false) (.block bid (.region i2 ops2.toArray true)) D J W)
    (hm : P.follows .mixedOrders = true) (al : List Nat) (hB : Region.lexB .any ops2.toArray = true) (hA : actB .any ops2.toArray (fun j => al.contains j) = true) (hd1 : noDefer ops1 = true) (hd2 : noDefer ops2 = true) (S : World → Nat → Prop) {e1 : Env}
    (h1 : ∀ W0 R, A ⟨P, ⟨n, []⟩, R⟩ e1 [] W0 → O ⟨P, ⟨n, []⟩, R⟩ ((p, v) :: e) ops1 ops1 [] W0)
    (h2 : ∀ W0 W1 R, W0.heap[D + 1]? = some (recOf fn tmps #[p] (.region i1 ops1.toArray false) (.block bid (.region i2 ops2.toArray true)) D .ready) → W0.heap[D]? = some (.deferred (some [])) → J W0 → W1 = W0.putObj (D + 1) (recOf fn tmps #[p] (.region i1 ops1.toArray false) (.block bid (.region i2 ops2.toArray true)) D .busy) →
      W1.heap[D + 1]? = some (recOf fn tmps #[p] (.region i1 ops1.toArray false) (.block bid (.region i2 ops2.toArray true)) D .busy) → W1.heap[D]? = some (.deferred (some [])) →
      (∀ e2 W3, W3.heap[D + 1]? = some (recOf fn tmps #[p] (.region i1 ops1.toArray false) (.block bid (.region i2 ops2.toArray true)) D .busy) → W3.heap[D]? = some (.deferred (some [])) → J' (W3.putObj (D + 1) (recOf fn tmps #[p] (.region i1 ops1.toArray false) (.block bid (.region i2 ops2.toArray true)) D .ready)) → A ⟨P, ⟨n, []⟩, R⟩ e2 [] W3) →
      M ⟨P, ⟨n, []⟩, R⟩ (S W1) W1 al e1 ops2 0 ops2 [] W1) :
    YieldAt Fence.wide 0 P (D + 1) #[v] W (fun en w3 => en = .returned (.bool true) ∧ Between fn tmps #[p] (.region i1 ops1.toArray false) (.block bid (.region i2 ops2.toArray true)) D J' w3) := by
  refine yield_round rfl hb rfl ?_
  intro W0 W' hs hl hk hJ
  have hag2 : Ag ⟨n, []⟩ ((p, v) :: e) ⟨(#[p].zip #[v]).foldl (fun t (q : Nat × Value) => t.setIfInBounds q.1 q.2) tmps, []⟩ := by
    have := hag.put hp v
    simpa [Act.put] using this
  refine roundRegion (F := ⟨P, ⟨n, []⟩, _⟩) (e := (p, v) :: e) (w := W0) ?_ hd1 (h1 W0 _ ?_) hs hag2
  · rintro ⟨a, w, h⟩; exact h
  intro w1 hs1 a1 ha1
  refine ⟨hs1, fun W2 hs2 => ?_⟩
  have hlt : D + 1 < W0.heap.size := (Array.getElem?_eq_some_iff.1 hl).1
  refine wpIn_block (roundMix (F := ⟨P, ⟨n, []⟩, _⟩) (e := e1) (w := W0.putObj (D + 1) (recOf fn tmps #[p] (.region i1 ops1.toArray false) (.block bid (.region i2 ops2.toArray true)) D .busy)) (S _) al hm hB hA ?_ hd2 (h2 W0 _ _ hl hk hJ rfl (World.putObj_heap_same hlt) ((World.putObj_heap_other (by omega)).trans hk) ?_) hs2 ha1)
  · rintro ⟨a, w, h⟩
    have h : (Exit.outgrown : Exit) = .normal ∧ _ := h
    cases h.1
  · intro e2 W3 hl3 hk3 hJ3 w3 hs3 a3 ha3
    exact ⟨rfl, W3, hs3, hl3, hk3, hJ3⟩
/-- a range over a function, all of whose rounds end normally -/
theorem G.rangeFunc {F : Fr} {e : Env} {k : List It} {w : World} {gf : Nat} {lb : List Value} {c : Operand} {ps : Array Tmp} {assign body : Code} {Jn : World → Prop}
    (hg : look e c = some (.func (.func gf) #[] lb.toArray)) (eg : ∀ args w, (callFunc gf args).run F.P w = .ok (.enter gf args) w)
    (hc : ∀ fn tmps, Ag F.z e ⟨tmps, F.z.D⟩ → ∀ w', Same ((w.alloc (.deferred (some []))).alloc (recOf fn tmps ps assign body w.heap.size .ready)) w' →
      Calls F.P gf (.func (.yield (w.heap.size + 1)) #[] #[] :: lb).toArray w' (fun en w3 => (∃ v, en = .returned v) ∧ Between fn tmps ps assign body w.heap.size Jn w3))
    (next : ∀ fn tmps W, Jn W → W.heap[w.heap.size]? = some (.deferred (some [])) → w.heap.size + 1 < W.heap.size →
      A (F.off ⟨.collected w.heap.size, #[]⟩) e k (W.putObj (w.heap.size + 1) (recOf fn tmps ps assign body w.heap.size .exhausted))) :
    G F e (.rangeFunc c ps assign body) k w := by
  intro w' hw a ha
  refine (wpIn_wide (n := 0)).1 (wpIn_rangeFunc ?_)
  intro fn _
  have hsz : w'.heap.size = w.heap.size := by rw [hw.heap]
  refine ⟨w'.heap.size + 1, _, ((w'.alloc (.deferred (some []))).alloc (recOf fn a.tmps ps assign body w'.heap.size .ready)), ⟨.fn (.func gf) lb.toArray, #[.func (.yield (w'.heap.size + 1)) #[] #[]]⟩, ((w'.alloc (.deferred (some []))).alloc (recOf fn a.tmps ps assign body w'.heap.size .ready)), gf, (.func (.yield (w'.heap.size + 1)) #[] #[] :: lb).toArray, ((w'.alloc (.deferred (some []))).alloc (recOf fn a.tmps ps assign body w'.heap.size .ready)), run_enterLoop_outer _ _ _ _ _, ?_, fun _ _ => trivial, ?_, (fun h => by cases h), ?_⟩
  · have h1 := ha.ev hg
    simp only [resolve, rangeCall, h1, Deferred.ofValue]
    simp [Act.eval]
  · have := eg (.func (.yield (w'.heap.size + 1)) #[] #[] :: lb).toArray
    simpa [invoke] using this _
  · rw [hsz]
    refine callsIn_wide.2 ((hc fn a.tmps ⟨rfl, ha.2.1, ha.2.2⟩ _ ?_).mono ?_)
    · exact (hw.alloc _).alloc _
    · rintro en w3 ⟨⟨v, rfl⟩, W0, hs, hl, hk, hJ⟩
      have hl' : w3.heap[w.heap.size + 1]? = some (recOf fn a.tmps ps assign body w.heap.size .ready) := (hs.at _).trans hl
      refine ⟨none, _, run_endLoop hl' (by intro h; cases h), ?_⟩
      have := next fn a.tmps W0 hJ hk (Array.getElem?_eq_some_iff.1 hl).1 _ (hs.putObj _ _) { a with defers := ⟨.collected w.heap.size, #[]⟩ :: a.defers } ⟨by show _ :: a.defers = _; rw [ha.1]; rfl, ha.2.1, ha.2.2⟩
      rw [post_off] at this
      exact this
/-! a function that holds a range over a function -/
def markPost (P : Program) (fn : Func) (Post : Value → World → Prop) : Exit → Act → World → Prop := bodyPostM Fence.wide 0 P fn (Ret Post)
theorem Fn.enterM {P : Program} {f : FuncId} {fn : Func} {c : Code} {args : List Value} {w : World} {Post : Value → World → Prop}
    (hc : ∀ w', (callFunc f args.toArray).run P w' = .ok (.enter f args.toArray) w') (hf : P.funcs[f]? = some fn) (hb : fn.body = some c)
    (h : G ⟨P, ⟨fn.ntmps, []⟩, markPost P fn Post⟩ (argEnv 0 args) c [] w) : Fn P f args w Post := by
  refine ⟨hc, fun w' hw => (callsIn_wide (n := 0)).1 (callsIn_of_wp_marks hf hb trivial ((wpIn_wide (n := 0)).2 (h w' hw _ ⟨rfl, ?_, ?_⟩)))⟩
  · simp; omega
  · intro t v ht
    obtain ⟨_, h2⟩ := argEnv_get args 0 t v ht
    simp only [Nat.sub_zero] at h2
    have hlt : t < args.length := (List.getElem?_eq_some_iff.1 h2).1
    rw [Array.getD_eq_getD_getElem?, Array.getElem?_append_left (by simpa using hlt)]
    simp [h2]
/-- a return ahead of the range -/
theorem G.retM0 {P : Program} {fn : Func} {n : Nat} {Post : Value → World → Prop} {e : Env} {k : List It} {w : World} {vs : List Value}
    (hv : ResEv P e w fn.results.toList vs) (hp : Post (outV vs) w) : G ⟨P, ⟨n, []⟩, markPost P fn Post⟩ e .ret k w := by
  intro w' hw a ha
  refine wp_ret (post_ret k a w' ?_)
  show LeavesInM Fence.wide 0 P fn a.tmps (Ret Post) a.defers .returning w'
  rw [ha.1]
  exact ⟨_, results_ev hw ha hv, _, w, hw, rfl, hp⟩
/-- a return behind the range -/
theorem G.retM {P : Program} {fn : Func} {n D : Nat} {Post : Value → World → Prop} {e : Env} {k : List It} {w : World} {vs : List Value}
    (hD : w.heap[D]? = some (.deferred (some []))) (hv : ResEv P e (w.putObj D (.deferred none)) fn.results.toList vs) (hp : Post (outV vs) (w.putObj D (.deferred none))) : G ⟨P, ⟨n, [⟨.collected D, #[]⟩]⟩, markPost P fn Post⟩ e .ret k w := by
  intro w' hw a ha
  refine wp_ret (post_ret k a w' ?_)
  show LeavesInM Fence.wide 0 P fn a.tmps (Ret Post) a.defers .returning w'
  rw [ha.1]
  refine ⟨(fun h => by cases h), .inl ⟨D, _, rfl, run_takeDeferred ((hw.at D).trans hD), ?_⟩⟩
  exact ⟨_, results_ev (hw.putObj D _) ha hv, _, _, hw.putObj D _, rfl, hp⟩
end Go.Proofs.YtpfehnopghffjaaGreatDoor
/-
  Values of interfaces: made, held against nil. No program in sight.
-/
namespace Go.Proofs.YtpfehnopghffjaaGreatDoor
open Go
section
variable {P : Program} {e : Env} {w : World} {x y : Operand} {T T' tp : TypeId} {v u : Value}
def ifaceD : TypeDesc → Bool
  | .interface _ => true
  | _ => false
theorem Ev.mkIface {d : TypeDesc} (hx : look e x = some v) (hT : P.underlying T = some d) (hd : ifaceD d = false) : Ev P e (.makeInterface T x) w (.iface T v) :=
  fun w' _ ρ hρ o ho => by
    have h1 := hρ _ _ hx
    cases d <;> first | (cases hd; done) | simp [execOp, ho, h1, Instr.makeInterface, run_underlying hT]
theorem run_equal_nil {ms : Array (String × TypeId)} (hT : P.underlying T = some (.interface ms)) (w : World) : (Op.equal T .nilIface .nilIface).run P w = .ok true w := by
  have h : ∀ d : Nat, (Op.equalIn (d + 1) T .nilIface .nilIface).run P w = .ok true w := fun d => by simp [Op.equalIn, run_underlying hT]
  simp [Op.equal, Op.maxDepth, h 9999]
theorem run_equal_iface_nil {ms : Array (String × TypeId)} (hT : P.underlying T = some (.interface ms)) (w : World) : (Op.equal T (.iface tp u) .nilIface).run P w = .ok false w := by
  have h : ∀ d : Nat, (Op.equalIn (d + 1) T (.iface tp u) .nilIface).run P w = .ok false w := fun d => by simp [Op.equalIn, run_underlying hT]
  simp [Op.equal, Op.maxDepth, h 9999]
/-- an error held against nil: there is none -/
theorem Ev.neNilN {ms : Array (String × TypeId)} (hx : look e x = some .nilIface) (hT : P.underlying T = some (.interface ms)) : Ev P e (.binOp .neq T x (.const .nilIface) T') w (.bool false) :=
  fun w' _ ρ hρ o ho => by
    have h1 := hρ _ _ hx
    have h2 : ρ (.const .nilIface) = .nilIface := hρ _ _ rfl
    simp [execOp, ho, h1, h2, eqGuard, binOp, run_equal_nil hT, Sem.run_bind]
/-- .. there is one -/
theorem Ev.neNilS {ms : Array (String × TypeId)} (hx : look e x = some (.iface tp u)) (hT : P.underlying T = some (.interface ms)) : Ev P e (.binOp .neq T x (.const .nilIface) T') w (.bool true) :=
  fun w' _ ρ hρ o ho => by
    have h1 := hρ _ _ hx
    have h2 : ρ (.const .nilIface) = .nilIface := hρ _ _ rfl
    simp [execOp, ho, h1, h2, eqGuard, binOp, run_equal_iface_nil hT, Sem.run_bind]
end
end Go.Proofs.YtpfehnopghffjaaGreatDoor
