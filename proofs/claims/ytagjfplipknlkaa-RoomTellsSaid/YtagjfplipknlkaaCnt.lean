
/-
  Layer 3, plain: how often each sector is in pieces; pieces compared as values.
-/
import Derived.Test.YtagjfplipknlkaaRoom4
import Derived.Laws.StructEq
set_option linter.unusedVariables false
set_option linter.unusedSimpArgs false
set_option maxRecDepth 20000
namespace Go.Proofs.Ytagjfplipknlkaa
open Go room
theorem Ev.neA {P : Program} {e : Env} {w : World} {x y : Operand} {T T' : TypeId} {xs ys : List Value} {q : Bool} (hx : look e x = some (.agg xs.toArray)) (hy : look e y = some (.agg ys.toArray)) (hm : P.eqGuardType P.depth T = false) (hq : ∀ w, (Op.equalIn 10000 T (.agg xs.toArray) (.agg ys.toArray)).run P w = .ok q w) : Ev P e (.binOp .neq T x y T') w (.bool (!q)) :=
  fun w' _ ρ hρ o ho => by
    simp [execOp, ho, hρ _ _ hx, hρ _ _ hy, run_eqGuard_agg, hm, run_neq_struct, hq]
theorem part_one {P : Program} {T : TypeId} {d : TypeDesc} (hT : P.underlying T = some d) (hd : aggD d = false) {cs : List Value} {o : Nat} {v : Value} (hv : cs[o]? = some v) (w : World) : (part T cs.toArray o).run P w = .ok v w := by
  simp [part, isAgg_run hT, hd, hv]
theorem piece_eq (a b : Piece) (w : World) : (Op.equalIn 10000 30 (.agg #[i64 a.fr, i64 a.ct]) (.agg #[i64 b.fr, i64 b.ct])).run Try.prog w = .ok (decide (a = b)) w := by
  have hf : Try.prog.underlying 30 = some (.struct (Try.prog.fieldsOf 30)) := by unfold Program.fieldsOf; rw [Try.underlying30]
  rw [run_equalIn_agg (P := Try.prog) w 9999 30 _ _ hf (by kernel_rfl)]
  have p0 : ∀ (c : Piece), (part 3 #[i64 c.fr, i64 c.ct] 0).run Try.prog = fun w => .ok (i64 c.fr) w := fun c => funext fun w => part_one (cs := [_, _]) Try.underlying3 rfl rfl w
  have p1 : ∀ (c : Piece), (part 3 #[i64 c.fr, i64 c.ct] 1).run Try.prog = fun w => .ok (i64 c.ct) w := fun c => funext fun w => part_one (cs := [_, _]) Try.underlying3 rfl rfl w
  have e2 : ∀ x y : Int, (Op.equalIn 9999 3 (i64 x) (i64 y)).run Try.prog = fun w => .ok (decide (x = y)) w := fun x y => funext fun w => by
    have := run_equalIn_int (P := Try.prog) w 9998 3 .i64 .i64 x y Try.underlying3
    rw [this]
    by_cases h : x = y <;> simp [h]
  unfold Program.fieldsOf
  rw [Try.underlying30]
  obtain ⟨af, ac⟩ := a
  obtain ⟨bf, bc⟩ := b
  have q0 := p0 ⟨af, ac⟩; have q0' := p0 ⟨bf, bc⟩
  have q1 := p1 ⟨af, ac⟩; have q1' := p1 ⟨bf, bc⟩
  simp only at q0 q0' q1 q1'
  simp only [Op.eqFields, Sem.run_bind, Sem.run_ite, Sem.run_pure, q0, q0', q1, q1', e2, Result.andThen_ok, Piece.mk.injEq]
  by_cases h0 : af = bf <;> by_cases h1 : ac = bc <;> simp [h0, h1]
namespace room
def inP (p : Piece) (k : Nat) : Int := if p.fr ≤ (k : Int) ∧ (k : Int) < p.fr + p.ct then 1 else 0
def cnt : List Piece → Nat → Int
  | [], _ => 0
  | p :: l, k => inP p k + cnt l k
theorem inP_bd (p : Piece) (k : Nat) : 0 ≤ inP p k ∧ inP p k ≤ 1 := by unfold inP; split <;> omega
theorem cnt_append (a b : List Piece) (k : Nat) : cnt (a ++ b) k = cnt a k + cnt b k := by
  induction a with
  | nil => simp [cnt]
  | cons p a ih => simp only [List.cons_append, cnt, ih]; omega
theorem cnt_bd (l : List Piece) (k : Nat) : 0 ≤ cnt l k ∧ cnt l k ≤ l.length := by
  induction l with
  | nil => simp [cnt]
  | cons p l ih => have := inP_bd p k; simp only [cnt, List.length_cons]; omega
theorem cnt_take {l : List Piece} {i : Nat} (h : i < l.length) (k : Nat) : cnt (l.take (i + 1)) k = cnt (l.take i) k + inP l[i] k := by
  rw [List.take_succ_eq_append_getElem h, cnt_append]; simp [cnt]
theorem cnt_apart : ∀ {l : List Piece}, l.Pairwise apart → ∀ k, cnt l k = if covB l k = true then 1 else 0
  | [], _, k => rfl
  | p :: l, h, k => by
    obtain ⟨h1, h2⟩ := List.pairwise_cons.1 h
    have ih := cnt_apart h2 k
    rw [cnt, ih, show covB (p :: l) k = (decide (p.fr ≤ (k : Int) ∧ (k : Int) < p.fr + p.ct) || covB l k) from by simp [covB]]
    unfold inP
    by_cases hp : p.fr ≤ (k : Int) ∧ (k : Int) < p.fr + p.ct
    · have hn : covB l k = false := covB_false (fun q hq hh => by have := h1 q hq; unfold apart at this; omega)
      rw [if_pos hp, hn, decide_eq_true hp]; rfl
    · rw [if_neg hp, decide_eq_false hp, Bool.false_or, Int.zero_add]
theorem apart_of_sep {l : List Piece} (h : l.Pairwise (fun p q => p.fr + p.ct < q.fr)) : l.Pairwise apart := h.imp (fun h => .inl (Int.le_of_lt h))
/-- a row of numbers -/
def rowM (n : Nat) (f : Nat → Int) : List Value := (List.range n).map (fun k => i64 (f k))
theorem rowM_len (n : Nat) (f : Nat → Int) : (rowM n f).length = n := by simp [rowM]
theorem rowM_get {n : Nat} (f : Nat → Int) {k : Nat} (h : k < n) : (rowM n f)[k]? = some (i64 (f k)) := by simp [rowM, h]
theorem rowM_congr {n : Nat} {f g : Nat → Int} (h : ∀ k, k < n → f k = g k) : rowM n f = rowM n g := by
  unfold rowM
  exact List.map_congr_left (fun k hk => by rw [h k (List.mem_range.1 hk)])
theorem rowM_set {n m : Nat} {f : Nat → Int} {x : Int} (hm : m < n) : (rowM n f).set m (i64 x) = rowM n (fun k => if k = m then x else f k) := by
  apply List.ext_getElem
  · simp [rowM]
  · intro k h1 h2
    simp only [rowM, List.length_set, List.length_map, List.length_range] at h1
    rw [List.getElem_set]
    simp only [rowM, List.getElem_map, List.getElem_range]
    by_cases hk : m = k
    · subst hk; rw [if_pos rfl, if_pos rfl]
    · rw [if_neg hk, if_neg (fun h => hk h.symm)]
theorem rowM_zero (n : Nat) : List.replicate n (i64 0) = rowM n (fun _ => 0) := by
  apply List.ext_getElem
  · simp [rowM]
  · intro k h1 h2; simp [rowM]
end room
end Go.Proofs.Ytagjfplipknlkaa
