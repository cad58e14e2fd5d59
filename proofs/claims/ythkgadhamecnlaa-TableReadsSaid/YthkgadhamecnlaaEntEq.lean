
/-
  Two entries compared as values.
-/
import Derived.Test.YthkgadhamecnlaaPage1
import Derived.Laws.StructEq
set_option linter.unusedVariables false
set_option linter.unusedSimpArgs false
set_option maxRecDepth 20000
namespace Go.Proofs.Ythkgadhamecnlaa
open Go page
theorem Ev.neA {P : Program} {e : Env} {w : World} {x y : Operand} {T T' : TypeId} {xs ys : List Value} {q : Bool} (hx : look e x = some (.agg xs.toArray)) (hy : look e y = some (.agg ys.toArray)) (hm : P.eqGuardType P.depth T = false) (hq : ∀ w, (Op.equalIn 10000 T (.agg xs.toArray) (.agg ys.toArray)).run P w = .ok q w) : Ev P e (.binOp .neq T x y T') w (.bool (!q)) :=
  fun w' _ ρ hρ o ho => by
    simp [execOp, ho, hρ _ _ hx, hρ _ _ hy, run_eqGuard_agg, hm, run_neq_struct, hq]
theorem Ev.eqA {P : Program} {e : Env} {w : World} {x y : Operand} {T T' : TypeId} {xs ys : List Value} {q : Bool} (hx : look e x = some (.agg xs.toArray)) (hy : look e y = some (.agg ys.toArray)) (hm : P.eqGuardType P.depth T = false) (hq : ∀ w, (Op.equalIn 10000 T (.agg xs.toArray) (.agg ys.toArray)).run P w = .ok q w) : Ev P e (.binOp .eql T x y T') w (.bool q) :=
  fun w' _ ρ hρ o ho => by
    simp [execOp, ho, hρ _ _ hx, hρ _ _ hy, run_eqGuard_agg, hm, run_eql_struct, hq]
theorem part_one {P : Program} {T : TypeId} {d : TypeDesc} (hT : P.underlying T = some d) (hd : aggD d = false) {cs : List Value} {o : Nat} {v : Value} (hv : cs[o]? = some v) (w : World) : (part T cs.toArray o).run P w = .ok v w := by
  simp [part, isAgg_run hT, hd, hv]
theorem entry_eq (a b : Entry) (w : World) : (Op.equalIn 10000 33 (.agg #[str a.key, str a.value, i64 a.seq, .bool a.gone]) (.agg #[str b.key, str b.value, i64 b.seq, .bool b.gone])).run Try.prog w = .ok (decide (a = b)) w := by
  have hf : Try.prog.underlying 33 = some (.struct (Try.prog.fieldsOf 33)) := by unfold Program.fieldsOf; rw [Try.underlying33]
  rw [run_equalIn_agg (P := Try.prog) w 9999 33 _ _ hf (by kernel_rfl)]
  have p0 : ∀ (c : Entry), (part 9 #[str c.key, str c.value, i64 c.seq, .bool c.gone] 0).run Try.prog = fun w => .ok (str c.key) w := fun c => funext fun w => part_one (cs := [_, _, _, _]) Try.underlying9 rfl rfl w
  have p1 : ∀ (c : Entry), (part 9 #[str c.key, str c.value, i64 c.seq, .bool c.gone] 1).run Try.prog = fun w => .ok (str c.value) w := fun c => funext fun w => part_one (cs := [_, _, _, _]) Try.underlying9 rfl rfl w
  have p2 : ∀ (c : Entry), (part 3 #[str c.key, str c.value, i64 c.seq, .bool c.gone] 2).run Try.prog = fun w => .ok (i64 c.seq) w := fun c => funext fun w => part_one (cs := [_, _, _, _]) Try.underlying3 rfl rfl w
  have p3 : ∀ (c : Entry), (part 4 #[str c.key, str c.value, i64 c.seq, .bool c.gone] 3).run Try.prog = fun w => .ok (.bool c.gone) w := fun c => funext fun w => part_one (cs := [_, _, _, _]) Try.underlying4 rfl rfl w
  have e0 : ∀ x y : Bs, (Op.equalIn 9999 9 (str x) (str y)).run Try.prog = fun w => .ok (decide (x = y)) w := fun x y => funext fun w => by
    have := run_equalIn_string (P := Try.prog) w 9998 9 (bs x) (bs y) Try.underlying9
    rw [bs_toList, bs_toList] at this
    rw [show str x = .string (bs x) from rfl, show str y = .string (bs y) from rfl, this]
    by_cases h : x = y <;> simp [h]
  have e2 : ∀ x y : Int, (Op.equalIn 9999 3 (i64 x) (i64 y)).run Try.prog = fun w => .ok (decide (x = y)) w := fun x y => funext fun w => by
    have := run_equalIn_int (P := Try.prog) w 9998 3 .i64 .i64 x y Try.underlying3
    rw [this]
    by_cases h : x = y <;> simp [h]
  have e3 : ∀ x y : Bool, (Op.equalIn 9999 4 (.bool x) (.bool y)).run Try.prog = fun w => .ok (x == y) w := fun x y => funext fun w => run_equalIn_bool' (P := Try.prog) w 9998 4 x y Try.underlying4
  unfold Program.fieldsOf
  rw [Try.underlying33]
  obtain ⟨ak, av, as', ag⟩ := a
  obtain ⟨bk, bv, bs', bg⟩ := b
  have q0 := p0 ⟨ak, av, as', ag⟩; have q0' := p0 ⟨bk, bv, bs', bg⟩
  have q1 := p1 ⟨ak, av, as', ag⟩; have q1' := p1 ⟨bk, bv, bs', bg⟩
  have q2 := p2 ⟨ak, av, as', ag⟩; have q2' := p2 ⟨bk, bv, bs', bg⟩
  have q3 := p3 ⟨ak, av, as', ag⟩; have q3' := p3 ⟨bk, bv, bs', bg⟩
  simp only at q0 q0' q1 q1' q2 q2' q3 q3'
  simp only [Op.eqFields, Sem.run_bind, Sem.run_ite, Sem.run_pure, q0, q0', q1, q1', q2, q2', q3, q3', e0, e2, e3, Result.andThen_ok, Entry.mk.injEq]
  by_cases h0 : ak = bk <;> by_cases h1 : av = bv <;> by_cases h2 : as' = bs' <;> cases ag <;> cases bg <;> simp [h0, h1, h2]
end Go.Proofs.Ythkgadhamecnlaa
