
/-
  The operations, one rule each, over the frames of the base text. No program in sight.
-/
import Derived.Test.YthkgadhamecnlaaBase
set_option linter.unusedVariables false
set_option linter.unusedSimpArgs false
namespace Go.Proofs.Ythkgadhamecnlaa
open Go

/-! ### calls and returns -/
def Ret (Post : Value → World → Prop) : Ending → World → Prop := fun e w' => ∃ r w2, Same w2 w' ∧ e = .returned r ∧ Post r w2
/-- function f, called so, returns; what it hands back and the world are as Post says (but for the count of draws) -/
def Fn (P : Program) (f : FuncId) (args : List Value) (w : World) (Post : Value → World → Prop) : Prop :=
  (∀ w', (callFunc f args.toArray).run P w' = .ok (.enter f args.toArray) w') ∧ ∀ w', Same w w' → Calls P f args.toArray w' (Ret Post)
theorem Fn.mono {P : Program} {f : FuncId} {args : List Value} {w : World} {Post Post' : Value → World → Prop} (h : Fn P f args w Post) (hp : ∀ r w', Post r w' → Post' r w') : Fn P f args w Post' :=
  ⟨h.1, fun w' hw => (h.2 w' hw).mono fun e w2 ⟨r, w3, h1, h2, h3⟩ => ⟨r, w3, h1, h2, hp r w3 h3⟩⟩
def argEnv : Nat → List Value → Env
  | _, [] => []
  | i, v :: r => (i, v) :: argEnv (i + 1) r
theorem argEnv_get : ∀ (l : List Value) (i t : Nat) (v : Value), (argEnv i l).get t = some v → i ≤ t ∧ l[t - i]? = some v
  | [], _, _, _, h => by cases h
  | x :: r, i, t, v, h => by
    simp only [argEnv, Env.get, cond_eq_ite, Nat.beq_eq] at h
    by_cases hit : i = t
    · subst hit; simp at h; subst h; simp
    · rw [if_neg hit] at h
      obtain ⟨h1, h2⟩ := argEnv_get r (i + 1) t v h
      refine ⟨by omega, ?_⟩
      rw [show t - i = (t - (i + 1)) + 1 by omega]
      simpa using h2
theorem Fn.enter {P : Program} {f : FuncId} {fn : Func} {c : Code} {args : List Value} {w : World} {Post : Value → World → Prop}
    (hc : ∀ w', (callFunc f args.toArray).run P w' = .ok (.enter f args.toArray) w') (hf : P.funcs[f]? = some fn) (hb : fn.body = some c)
    (h : G ⟨P, fn.ntmps, bodyPost P fn (Ret Post)⟩ (argEnv 0 args) c [] w) : Fn P f args w Post := by
  refine ⟨hc, fun w' hw => calls_of_wp hf hb (h w' hw _ ⟨rfl, ?_, ?_⟩)⟩
  · simp; omega
  · intro t v ht
    obtain ⟨_, h2⟩ := argEnv_get args 0 t v ht
    simp only [Nat.sub_zero] at h2
    have hlt : t < args.length := (List.getElem?_eq_some_iff.1 h2).1
    rw [Array.getD_eq_getD_getElem?, Array.getElem?_append_left (by simpa using hlt)]
    simp [h2]
def resOf (e : Env) : List ResultVar → Option (List Value)
  | [] => some []
  | .tmp t :: r => match e.get t, resOf e r with | some v, some vs => some (v :: vs) | _, _ => none
  | .cell _ _ :: _ => none
def outV : List Value → Value
  | [v] => v
  | vs => .tuple vs.toArray
theorem resOf_run {n : Nat} {e : Env} {a : Act} (ha : Ag n e a) (P : Program) (w : World) (f : ResultVar → Sem Value)
    (hf : ∀ t, f (.tmp t) = pure (a.tmps.getD t undef)) :
    ∀ (l : List ResultVar) (vs : List Value), resOf e l = some vs → (l.mapM f).run P w = .ok vs w := by
  intro l
  induction l with
  | nil => intro vs h; simp [resOf] at h; subst h; rfl
  | cons x r ih =>
    intro vs h
    cases x with
    | cell _ _ => simp [resOf] at h
    | tmp t =>
      simp only [resOf] at h
      split at h
      · rename_i v us h1 h2
        cases h
        have := ha.2.2 t v h1
        simp [List.mapM_cons, hf, this, ih us h2]
      · cases h
theorem results_of {n : Nat} {e : Env} {a : Act} (ha : Ag n e a) {P : Program} {fn : Func} {vs : List Value} (h : resOf e fn.results.toList = some vs) (w : World) :
    (results fn a.tmps).run P w = .ok (outV vs) w := by
  unfold results
  rw [Sem.run_bind, Array.mapM_eq_mapM_toList]
  rw [Sem.run_map, resOf_run ha P w _ (fun t => by rfl) _ _ h]
  simp only [Result.andThen_ok]
  match vs with
  | [] => rfl
  | [v] => rfl
  | v :: u :: r => simp [outV]
theorem G.ret {P : Program} {fn : Func} {n : Nat} {Post : Value → World → Prop} {e : Env} {k : List It} {w : World} (vs : List Value)
    (hv : resOf e fn.results.toList = some vs) (hp : Post (outV vs) w) : G ⟨P, n, bodyPost P fn (Ret Post)⟩ e .ret k w :=
  fun w' hw a ha => wp_ret (post_ret k a w' ⟨ha.1, outV vs, results_of ha hv w', outV vs, w, hw, rfl, hp⟩)
theorem A.fin {P : Program} {fn : Func} {n : Nat} {Post : Value → World → Prop} {e : Env} {w : World} (vs : List Value)
    (hv : resOf e fn.results.toList = some vs) (hp : Post (outV vs) w) : A ⟨P, n, bodyPost P fn (Ret Post)⟩ e [] w :=
  fun w' hw a ha => ⟨ha.1, outV vs, results_of ha hv w', outV vs, w, hw, rfl, hp⟩

/-! ### one operation -/
/-- does the guard let the operation by? -/
def gd (e : Env) (all : List Oper) : Option (Nat × Bool) → Option Bool
  | none => some true
  | some (j, want) =>
    match all[j]? with
    | some o =>
      match o.dst with
      | some t =>
        match e.get t with
        | some (.bool b) => some (b == want)
        | some (.tuple _) => some false
        | _ => none
      | none => none
    | none => none
theorem gd_wanted {n : Nat} {e : Env} {a : Act} (ha : Ag n e a) {all : List Oper} {o : Oper} {b : Bool} (h : gd e all o.guard = some b) :
    Region.wanted o (yielded all.toArray a.tmps) = b := by
  unfold gd at h
  unfold Region.wanted
  split at h
  · rename_i hg
    simp only [hg]
    cases h
    rfl
  · rename_i j want hg
    simp only [hg]
    split at h
    · rename_i oj hj
      split at h
      · rename_i t ht
        split at h
        · rename_i c hc
          cases h
          have h1 := ha.2.2 t _ hc
          have hy : a.tmps[t]? = some (.bool c) := by
            rw [Array.getD_eq_getD_getElem?] at h1
            cases hx : a.tmps[t]? with
            | none => rw [hx] at h1; simp [undef] at h1
            | some v => rw [hx] at h1; simpa using h1
          simp [yielded, hj, ht, hy]
        · rename_i c hc
          cases h
          have h1 := ha.2.2 t _ hc
          rw [Array.getD_eq_getD_getElem?] at h1
          cases hx : a.tmps[t]? with
          | none => simp [yielded, hj, ht, hx]
          | some v => rw [hx] at h1; simp at h1; subst h1; simp [yielded, hj, ht, hx]
        · cases h
      · cases h
    · cases h

section
variable {F : Fr} {e : Env} {k : List It} {w : World} {all rest : List Oper} {d : Nat} {op : Op} {ty : TypeId} {pos : String} {af : Array Edge} {g : Option (Nat × Bool)}

theorem O.nil (h : A F e k w) : O F e all [] k w := fun w' hw a ha => h w' hw a ha
/-- an operation that hands back a value; what is known of it: Post -/
theorem O.step (Post : Value → World → Prop) (hd : Nat.blt d F.n = true) (hg : gd e all g = some true)
    (h : ∀ w', Same w w' → ∀ ρ : Operand → Value, (∀ x u, look e x = some u → ρ x = u) → ∃ v w2 w3, (execOp ρ ⟨some d, op, ty, pos, af, g⟩).run F.P w' = .ok (.value v) w3 ∧ Same w2 w3 ∧ Post v w2)
    (next : ∀ v w2, Post v w2 → O F ((d, v) :: e) all rest k w2) : O F e all (⟨some d, op, ty, pos, af, g⟩ :: rest) k w := by
  intro w' hw a ha
  refine wpList_step fun K hK => ?_
  rw [if_pos (gd_wanted ha hg)]
  obtain ⟨v, w2, w3, hr, hs, hp⟩ := h w' hw a.eval (fun x u hx => ha.ev hx)
  unfold Oper.wp
  rw [hr]
  exact hK _ _ (next v w2 hp w3 hs _ (ha.put hd v))
theorem O.skip (hd : Nat.blt d F.n = true) (hg : gd e all g = some false) (next : O F ((d, undef) :: e) all rest k w) : O F e all (⟨some d, op, ty, pos, af, g⟩ :: rest) k w := by
  intro w' hw a ha
  refine wpList_step fun K hK => ?_
  rw [if_neg (by rw [gd_wanted ha hg]; simp)]
  exact hK _ _ (next w' hw _ (ha.put hd undef))
theorem O.skip0 (hg : gd e all g = some false) (next : O F e all rest k w) : O F e all (⟨none, op, ty, pos, af, g⟩ :: rest) k w := by
  intro w' hw a ha
  refine wpList_step fun K hK => ?_
  rw [if_neg (by rw [gd_wanted ha hg]; simp)]
  exact hK _ _ (next w' hw _ (ha.put0 undef))
/-- a test's two outcomes, apart -/
theorem O.case (t : Nat) {ops : List Oper} {b : Bool} (h : e.get t = some (.bool b)) (h1 : b = true → O F ((t, .bool true) :: e) all ops k w) (h2 : b = false → O F ((t, .bool false) :: e) all ops k w) : O F e all ops k w := by
  have hkeep : ∀ {n : Nat} {a : Act}, Ag n e a → Ag n ((t, .bool b) :: e) a := fun ha => ⟨ha.1, ha.2.1, fun t' v' h' => by
    simp only [Env.get, cond_eq_ite, Nat.beq_eq] at h'
    by_cases ht : t = t'
    · subst ht; simp at h'; subst h'; exact ha.2.2 _ _ h
    · rw [if_neg ht] at h'; exact ha.2.2 _ _ h'⟩
  intro w' hw a ha
  cases b
  · exact h2 rfl w' hw a (hkeep ha)
  · exact h1 rfl w' hw a (hkeep ha)
theorem O.caseD (t : Nat) {ops : List Oper} {p : Prop} [Decidable p] (h : e.get t = some (.bool (decide p))) (h1 : p → O F ((t, .bool true) :: e) all ops k w) (h2 : ¬ p → O F ((t, .bool false) :: e) all ops k w) : O F e all ops k w :=
  O.case t h (fun hb => h1 (of_decide_eq_true hb)) (fun hb => h2 (of_decide_eq_false hb))

/-- the operation hands back v and leaves the world alone -/
def Ev (P : Program) (e : Env) (op : Op) (w : World) (v : Value) : Prop :=
  ∀ w', Ext (fun _ => False) w w' → ∀ ρ : Operand → Value, (∀ x u, look e x = some u → ρ x = u) → ∀ o : Oper, o.op = op → (execOp ρ o).run P w' = .ok (.value v) w'
theorem O.p {v : Value} (hd : Nat.blt d F.n = true) (hg : gd e all g = some true) (h : Ev F.P e op w v) (next : O F ((d, v) :: e) all rest k w) : O F e all (⟨some d, op, ty, pos, af, g⟩ :: rest) k w := by
  intro w' hw a ha
  refine wpList_step fun K hK => ?_
  rw [if_pos (gd_wanted ha hg)]
  unfold Oper.wp
  rw [h w' (.same hw) a.eval (fun x u hx => ha.ev hx) _ rfl]
  exact hK _ _ (next w' hw _ (ha.put hd v))

/-! #### a region that draws -/
theorem D.nil (h : A F e k w) : D F e all [] k w := by
  intro w' hw a ha
  refine wpQuiet_nil ?_
  intro w2 hw2
  exact h _ (hw.trans hw2) a ha
theorem D.p {v : Value} (hd : Nat.blt d F.n = true) (hg : gd e all g = some true) (h : Ev F.P e op w v) (next : D F ((d, v) :: e) all rest k w) : D F e all (⟨some d, op, ty, pos, af, g⟩ :: rest) k w := by
  intro w' hw a ha
  refine wpQuiet_step fun K hK => ?_
  rw [if_pos (gd_wanted ha hg)]
  refine ⟨v, ?_, hK _ (next w' hw _ (ha.put hd v))⟩
  intro w2 hw2
  unfold Oper.quietAt
  rw [h _ (.same (hw.trans hw2)) a.eval (fun x u hx => ha.ev hx) _ rfl]
  exact ⟨rfl, rfl⟩
theorem D.skip (hd : Nat.blt d F.n = true) (hg : gd e all g = some false) (next : D F ((d, undef) :: e) all rest k w) : D F e all (⟨some d, op, ty, pos, af, g⟩ :: rest) k w := by
  intro w' hw a ha
  refine wpQuiet_step fun K hK => ?_
  rw [if_neg (by rw [gd_wanted ha hg]; simp)]
  exact hK _ (next w' hw _ (ha.put hd undef))
theorem D.case (t : Nat) {ops : List Oper} {b : Bool} (h : e.get t = some (.bool b)) (h1 : b = true → D F ((t, .bool true) :: e) all ops k w) (h2 : b = false → D F ((t, .bool false) :: e) all ops k w) : D F e all ops k w := by
  have hkeep : ∀ {n : Nat} {a : Act}, Ag n e a → Ag n ((t, .bool b) :: e) a := fun ha => ⟨ha.1, ha.2.1, fun t' v' h' => by
    simp only [Env.get, cond_eq_ite, Nat.beq_eq] at h'
    by_cases ht : t = t'
    · subst ht; simp at h'; subst h'; exact ha.2.2 _ _ h
    · rw [if_neg ht] at h'; exact ha.2.2 _ _ h'⟩
  intro w' hw a ha
  cases b
  · exact h2 rfl w' hw a (hkeep ha)
  · exact h1 rfl w' hw a (hkeep ha)
theorem D.caseD (t : Nat) {ops : List Oper} {p : Prop} [Decidable p] (h : e.get t = some (.bool (decide p))) (h1 : p → D F ((t, .bool true) :: e) all ops k w) (h2 : ¬ p → D F ((t, .bool false) :: e) all ops k w) : D F e all ops k w :=
  D.case t h (fun hb => h1 (of_decide_eq_true hb)) (fun hb => h2 (of_decide_eq_false hb))
theorem look_args {e : Env} {ρ : Operand → Value} (hρ : ∀ x u, look e x = some u → ρ x = u) : ∀ (xs : List Operand) (vs : List Value), xs.mapM (look e) = some vs → xs.map ρ = vs
  | [], vs, h => by simpa using h
  | x :: xs, vs, h => by
    simp only [List.mapM_cons, Option.pure_def, Option.bind_eq_bind] at h
    cases hx : look e x with
    | none => simp [hx] at h
    | some u =>
      cases hr : xs.mapM (look e) with
      | none => simp [hx, hr] at h
      | some us =>
        simp [hx, hr] at h
        subst h
        simp [hρ x u hx, look_args hρ xs us hr]
theorem run_call_value {P : Program} {ρ : Operand → Value} {o : Oper} {c : Operand} {f : FuncId} {xs : List Operand} {ats : Array TypeId} {first captured : List Value}
    (ho : o.op = .call { callee := .value c, args := xs.toArray, argTypes := ats }) (hc : ρ c = .func (.func f) first.toArray captured.toArray) (w : World) :
    (execOp ρ o).run P w = (callFunc f (first ++ xs.map ρ ++ captured).toArray).run P w := by
  simp [execOp, ho, resolve, Deferred.ofValue, hc, invoke]
/-- a call: the callee's contract, then what follows, in whatever world it leaves -/
theorem O.call {c : Operand} {f : FuncId} {xs : List Operand} {ats : Array TypeId} {vs first captured : List Value} {Post : Value → World → Prop} (hd : Nat.blt d F.n = true) (hg : gd e all g = some true)
    (hf : look e c = some (.func (.func f) first.toArray captured.toArray)) (hx : xs.mapM (look e) = some vs) (hc : Fn F.P f (first ++ vs ++ captured) w Post) (next : ∀ r w2, Post r w2 → O F ((d, r) :: e) all rest k w2) :
    O F e all (⟨some d, .call { callee := .value c, args := xs.toArray, argTypes := ats }, ty, pos, af, g⟩ :: rest) k w := by
  intro w' hw a ha
  refine wpList_step fun K hK => ?_
  rw [if_pos (gd_wanted ha hg)]
  unfold Oper.wp
  rw [run_call_value rfl (ha.ev hf), look_args (fun x u hx => ha.ev hx) xs vs hx, hc.1 w', Oper.upon_enter]
  refine (hc.2 w' hw).mono fun en w3 ⟨r, w2, hs, he, hp⟩ => ?_
  subst he
  exact hK _ _ (next r w2 hp w3 hs _ (ha.put hd r))
/-- a call in a region that draws: one value, whatever was drawn, and nothing turns -/
theorem D.call {c : Operand} {f : FuncId} {xs : List Operand} {ats : Array TypeId} {vs first captured : List Value} {v : Value} (hd : Nat.blt d F.n = true) (hg : gd e all g = some true)
    (hf : look e c = some (.func (.func f) first.toArray captured.toArray)) (hx : xs.mapM (look e) = some vs) (hc : Fn F.P f (first ++ vs ++ captured) w (fun r w2 => r = v ∧ Same w w2)) (next : D F ((d, v) :: e) all rest k w) :
    D F e all (⟨some d, .call { callee := .value c, args := xs.toArray, argTypes := ats }, ty, pos, af, g⟩ :: rest) k w := by
  intro w' hw a ha
  refine wpQuiet_step fun K hK => ?_
  rw [if_pos (gd_wanted ha hg)]
  refine ⟨v, ?_, hK _ (next w' hw _ (ha.put hd v))⟩
  intro w2 hw2
  unfold Oper.quietAt
  rw [run_call_value rfl (ha.ev hf), look_args (fun x u hx => ha.ev hx) xs vs hx, hc.1 w2]
  refine ⟨rfl, (hc.2 w2 (hw.trans hw2)).mono fun en w3 ⟨r, w4, hs, he, hr, h4⟩ => ?_⟩
  subst he hr
  exact ⟨rfl, hw.symm.trans (h4.trans hs)⟩
end
end Go.Proofs.Ythkgadhamecnlaa
