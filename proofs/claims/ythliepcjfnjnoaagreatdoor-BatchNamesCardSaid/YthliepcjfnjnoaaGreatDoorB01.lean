import Derived.WalkKit
import Derived.Deep.Quiet
import Derived.StillTail
import Derived.Scope
set_option linter.unusedVariables false
set_option linter.unusedSimpArgs false
namespace Go.Proofs.YthliepcjfnjnoaaGreatDoor
open Go
structure Same (w w' : World) : Prop where
  heap : w'.heap = w.heap
  os : w'.os = w.os
  tape : w'.tape = w.tape
  output : w'.output = w.output
theorem Same.refl (w : World) : Same w w := ⟨rfl, rfl, rfl, rfl⟩
theorem Same.symm {w w' : World} (h : Same w w') : Same w' w := ⟨h.heap.symm, h.os.symm, h.tape.symm, h.output.symm⟩
theorem Same.trans {a b c : World} (h : Same a b) (k : Same b c) : Same a c :=
  ⟨k.heap.trans h.heap, k.os.trans h.os, k.tape.trans h.tape, k.output.trans h.output⟩
theorem Same.cell {w w' : World} (h : Same w w') (a : Addr) : w'.cell? a = w.cell? a := by simp [World.cell?, h.heap]
theorem Same.frozen {w w' : World} (h : Same w w') (a : Addr) : w'.frozen? a = w.frozen? a := by simp [World.frozen?, h.heap]
theorem Same.alloc {w w' : World} (h : Same w w') (o : Obj) : Same (w.alloc o) (w'.alloc o) := ⟨by show w'.heap.push o = w.heap.push o; rw [h.heap], h.os, h.tape, h.output⟩
theorem Same.setCell {w w' : World} (h : Same w w') (a : Addr) (v : Value) : Same (w.setCell a v) (w'.setCell a v) := ⟨by simp [World.setCell, h.heap], h.os, h.tape, h.output⟩
theorem Same.drew {w w' : World} (h : Same w w') : Same w w'.drew := ⟨h.heap, h.os, h.tape, h.output⟩
theorem same_draw (w : World) : Same w { w with drawn := w.drawn + 1 } := ⟨rfl, rfl, rfl, rfl⟩
structure Ext (S : Nat → Prop) (w w' : World) : Prop where
  os : w'.os = w.os
  tape : w'.tape = w.tape
  output : w'.output = w.output
  size : w.heap.size ≤ w'.heap.size
  block : ∀ k, k < w.heap.size → ¬ S k → w'.heap[k]? = w.heap[k]?
theorem Ext.same {S : Nat → Prop} {w w' : World} (h : Same w w') : Ext S w w' := ⟨h.os, h.tape, h.output, by rw [h.heap]; exact Nat.le_refl _, fun k _ _ => by rw [h.heap]⟩
theorem Ext.refl {S : Nat → Prop} (w : World) : Ext S w w := .same (.refl w)
theorem Ext.trans {S : Nat → Prop} {a b c : World} (h : Ext S a b) (k : Ext S b c) : Ext S a c :=
  ⟨k.os.trans h.os, k.tape.trans h.tape, k.output.trans h.output, Nat.le_trans h.size k.size, fun i hi hs => (k.block i (Nat.lt_of_lt_of_le hi h.size) hs).trans (h.block i hi hs)⟩
theorem Ext.mono {S S' : Nat → Prop} {w w' : World} (h : Ext S w w') (hs : ∀ k, k < w.heap.size → S k → S' k) : Ext S' w w' :=
  ⟨h.os, h.tape, h.output, h.size, fun k hk hn => h.block k hk (fun hx => hn (hs k hk hx))⟩
theorem Ext.alloc {S : Nat → Prop} (w : World) (o : Obj) : Ext S w (w.alloc o) := ⟨rfl, rfl, rfl, by simp, fun k hk _ => Go.RowKit.Below.heap_alloc _ _ _ hk⟩
theorem Ext.setCell {S : Nat → Prop} (w : World) {p : Addr} (hp : S p.block) (u : Value) : Ext S w (w.setCell p u) :=
  ⟨rfl, rfl, rfl, by simp, fun k hk hs => Go.RowKit.Below.heap_setCell _ _ _ _ (fun e => hs (e ▸ hp))⟩
theorem Ext.below {w w' : World} (h : Ext (fun _ => False) w w') : Go.RowKit.Below w.heap.size w w' := ⟨h.os, h.tape, h.output, h.size, fun k hk => h.block k hk (fun x => x)⟩
theorem Ext.cell {S : Nat → Prop} {w w' : World} (h : Ext S w w') {a : Addr} {v : Value} (hc : w.cell? a = some v) (hs : ¬ S a.block) : w'.cell? a = some v :=
  (World.cell?_of_block (h.block a.block (World.block_lt_of_cell? w a hc) hs)).trans hc
theorem Ext.then {S : Nat → Prop} {a b c : World} (h : Ext (fun _ => False) a b) (k : Ext S b c) (hs : ∀ i, S i → i < b.heap.size → a.heap.size ≤ i) : Ext (fun _ => False) a c :=
  ⟨k.os.trans h.os, k.tape.trans h.tape, k.output.trans h.output, Nat.le_trans h.size k.size, fun i hi _ =>
    (k.block i (Nat.lt_of_lt_of_le hi h.size) (fun hx => by have := hs i hx (Nat.lt_of_lt_of_le hi h.size); omega)).trans (h.block i hi (fun x => x))⟩
abbrev Env := List (Nat × Value)
def Env.get : Env → Nat → Option Value
  | [], _ => none
  | (k, v) :: r, t => bif Nat.beq k t then some v else Env.get r t
def look (e : Env) : Operand → Option Value
  | .tmp t => e.get t
  | .const v => some v
  | .global g => some (.pointer (some ⟨g, 0, none⟩))
  | .func f => some (.func (.func f) #[] #[])
structure Sz where
  n : Nat
  D : List Deferred
def Ag (n : Sz) (e : Env) (a : Act) : Prop := a.defers = n.D ∧ n.n ≤ a.tmps.size ∧ ∀ t v, e.get t = some v → a.tmps.getD t undef = v
theorem Ag.ev {n : Sz} {e : Env} {a : Act} (h : Ag n e a) {x : Operand} {v : Value} (hx : look e x = some v) : a.eval x = v := by
  cases x with
  | tmp t => exact h.2.2 t v hx
  | const u => simpa [look, Act.eval] using hx
  | global g => simpa [look, Act.eval] using hx
  | func f => simpa [look, Act.eval] using hx
theorem Ag.put {n : Sz} {e : Env} {a : Act} (h : Ag n e a) {d : Nat} (hd : Nat.blt d n.n = true) (v : Value) : Ag n ((d, v) :: e) (a.put (some d) v) := by
  obtain ⟨h1, h2, h3⟩ := h
  have hd' : d < n.n := by simpa using hd
  refine ⟨h1, by simpa [Act.put] using h2, fun t u hu => ?_⟩
  simp only [Env.get, cond_eq_ite, Nat.beq_eq] at hu
  simp only [Act.put]
  by_cases hdt : d = t
  · subst hdt
    simp at hu
    subst hu
    simp [Array.getD_eq_getD_getElem?, Array.getElem?_setIfInBounds, (by omega : d < a.tmps.size)]
  · rw [if_neg hdt] at hu
    have := h3 t u hu
    rw [Array.getD_eq_getD_getElem?] at this ⊢
    rw [Array.getElem?_setIfInBounds_ne hdt]
    exact this
theorem Ag.put0 {n : Sz} {e : Env} {a : Act} (h : Ag n e a) (v : Value) : Ag n e (a.put none v) := h
def Sub : Env → Env → Prop
  | [], _ => True
  | (k, v) :: r, e => e.get k = some v ∧ Sub r e
theorem Sub.get {e' e : Env} (h : Sub e' e) : ∀ t v, e'.get t = some v → e.get t = some v := by
  induction e' with
  | nil => intro t v ht; cases ht
  | cons x r ih =>
    obtain ⟨k, u⟩ := x
    intro t v ht
    simp only [Env.get, cond_eq_ite, Nat.beq_eq] at ht
    by_cases hk : k = t
    · subst hk; simp at ht; subst ht; exact h.1
    · rw [if_neg hk] at ht; exact ih h.2 t v ht
theorem Ag.sub {n : Sz} {e e' : Env} {a : Act} (h : Ag n e a) (hs : Sub e' e) : Ag n e' a := ⟨h.1, h.2.1, fun t v ht => h.2.2 t v (hs.get t v ht)⟩
theorem wp_loopS {P : Program} {Q : Exit → Act → World → Prop} {a : Act} {w : World} {c : Code} {S : Type} (rel : S → Act → World → Prop) (m : S → Nat) (s0 : S) (h₀ : rel s0 a w)
    (round : ∀ s a w, rel s a w → c.wp P (Exit.then (fun a' w' => ∃ s', rel s' a' w' ∧ m s' < m s) Q) a w) : (Code.loop c).wp P Q a w := by
  intro b k cs
  have key : ∀ n s a w, m s = n → rel s a w →
      ∃ e a' w', Q e a' w' ∧ Arrives P (lone (b.at a (.code c :: .inLoop c :: k)) cs w) b k cs e a' w' := by
    intro n
    induction n using Nat.strongRecOn with
    | _ n ih =>
      intro s a w hn hI
      obtain ⟨e, a₁, w₁, hq, harr⟩ := round s a w hI b (.inLoop c :: k) cs
      cases e with
      | normal =>
        obtain ⟨s', hI₁, hlt⟩ := hq
        obtain ⟨e₂, a₂, w₂, hq₂, harr₂⟩ := ih (m s') (hn ▸ hlt) s' a₁ w₁ rfl hI₁
        exact ⟨e₂, a₂, w₂, hq₂, .of_steps (Steps.trans harr (.one step_inLoop)) harr₂⟩
      | exit id => exact ⟨_, a₁, w₁, hq, .pass (x := .inLoop c) rfl (fun _ _ => .inl (by simp)) harr⟩
      | goto l => exact ⟨_, a₁, w₁, hq, .pass (x := .inLoop c) rfl (fun _ _ => .inl (by simp)) harr⟩
      | ret => exact ⟨_, a₁, w₁, hq, .pass (x := .inLoop c) rfl (fun _ _ => .inl (by simp)) harr⟩
      | panic ch => exact ⟨_, a₁, w₁, hq, .pass (x := .inLoop c) rfl (fun _ _ => .inl (by simp)) harr⟩
      | outgrown => exact ⟨_, a₁, w₁, hq, .pass (x := .inLoop c) rfl (fun _ _ => .inl (by simp)) harr⟩
  obtain ⟨e, a', w', hq, harr⟩ := key _ s0 a w rfl h₀
  exact ⟨e, a', w', hq, .of_steps (.one step_loop) harr⟩
structure Fr where
  P : Program
  z : Sz
  R : Exit → Act → World → Prop
abbrev Fr.n (F : Fr) : Nat := F.z.n
inductive It where
  | code (c : Code)
  | blk (id : Nat)
  | inv (J : Act → World → Prop)
  | sco
def post (F : Fr) : List It → Exit → Act → World → Prop
  | [] => F.R
  | .code c :: k => Exit.then (fun a w => c.wp F.P (post F k) a w) (post F k)
  | .blk id :: k => Exit.inBlock id (post F k)
  | .inv J :: k => Exit.then J (post F k)
  | .sco :: k => Exit.noGoto (post F k)
def G (F : Fr) (e : Env) (c : Code) (k : List It) (w : World) : Prop := ∀ w', Same w w' → ∀ a, Ag F.z e a → c.wp F.P (post F k) a w'
def A (F : Fr) (e : Env) (k : List It) (w : World) : Prop := ∀ w', Same w w' → ∀ a, Ag F.z e a → post F k .normal a w'
def O (F : Fr) (e : Env) (all ops : List Oper) (k : List It) (w : World) : Prop := ∀ w', Same w w' → ∀ a, Ag F.z e a → wpList F.P all.toArray (post F k) ops a w'
def D (F : Fr) (e : Env) (all ops : List Oper) (k : List It) (w : World) : Prop := ∀ w', Same w w' → ∀ a, Ag F.z e a →
  wpQuiet F.P all.toArray (fun w2 => Same w' w2) (fun a' => ∀ w2, Same w' w2 → post F k .normal a' w2) ops a
section
variable {F : Fr} {e : Env} {k : List It} {w : World}
theorem G.seq {x y : Code} (h : G F e x (.code y :: k) w) : G F e (.seq x y) k w := fun w' hw a ha => wp_seq (h w' hw a ha)
theorem A.code {c : Code} (h : G F e c k w) : A F e (.code c :: k) w := fun w' hw a ha => h w' hw a ha
theorem A.blk {id : Nat} (h : A F e k w) : A F e (.blk id :: k) w := fun w' hw a ha => h w' hw a ha
theorem A.sco (h : A F e k w) : A F e (.sco :: k) w := fun w' hw a ha => h w' hw a ha
theorem G.scope {c : Code} (h : G F e c (.sco :: k) w) : G F e (.scope c) k w := fun w' hw a ha => wp_scope_straight (h w' hw a ha)
theorem G.label {l : Nat} (h : A F e k w) : G F e (.label l) k w := fun w' hw a ha => wp_label (h w' hw a ha)
theorem G.skip (h : A F e k w) : G F e .skip k w := fun w' hw a ha => wp_skip (h w' hw a ha)
theorem G.block {id : Nat} {c : Code} (h : G F e c (.blk id :: k) w) : G F e (.block id c) k w := fun w' hw a ha => wp_block (h w' hw a ha)
theorem G.region {id : Nat} {l : List Oper} (h : O F e l l k w) : G F e (.region id l.toArray false) k w := fun w' hw a ha => wp_region_lit (h w' hw a ha)
theorem G.draws {id : Nat} {l : List Oper} (hm : F.P.follows .mixedOrders = true) (hB : Region.lexB .any l.toArray = true) (h : D F e l l k w) : G F e (.region id l.toArray true) k w :=
  fun w' hw a ha => wp_region_quiet (C := fun w2 => Same w' w2) hm hB (same_draw w') (by simpa using h w' hw a ha)
def outOf (id : Nat) : List It → Option (List It)
  | [] => none
  | .code _ :: k => outOf id k
  | .inv _ :: k => outOf id k
  | .sco :: k => outOf id k
  | .blk i :: k => bif Nat.beq id i then some k else outOf id k
theorem post_exit {id : Nat} : ∀ {k k' : List It}, outOf id k = some k' → ∀ a w, post F k' .normal a w → post F k (.exit id) a w
  | [], _, h, _, _, _ => by cases h
  | .code _ :: k, _, h, a, w, hp => post_exit (k := k) h a w hp
  | .inv _ :: k, _, h, a, w, hp => post_exit (k := k) h a w hp
  | .sco :: k, _, h, a, w, hp => post_exit (k := k) h a w hp
  | .blk i :: k, k', h, a, w, hp => by
    simp only [outOf, cond_eq_ite, Nat.beq_eq] at h
    simp only [post, Exit.inBlock]
    by_cases hi : id = i
    · rw [if_pos hi] at h ⊢
      cases h
      exact hp
    · rw [if_neg hi] at h ⊢
      exact post_exit (k := k) h a w hp
theorem G.exit {id : Nat} {k' : List It} (hk : outOf id k = some k') (h : A F e k' w) : G F e (.exit id) k w :=
  fun w' hw a ha => wp_exit (post_exit hk a w' (h w' hw a ha))
theorem post_ret : ∀ (k : List It) (a : Act) (w : World), F.R .ret a w → post F k .ret a w
  | [], _, _, h => h
  | .code _ :: k, a, w, h => post_ret k a w h
  | .inv _ :: k, a, w, h => post_ret k a w h
  | .sco :: k, a, w, h => post_ret k a w h
  | .blk _ :: k, a, w, h => post_ret k a w h
theorem G.cond {c : Operand} {x y : Code} {t : Bool} (hc : look e c = some (.bool t)) (ht : t = true → G F e x k w) (hf : t = false → G F e y k w) : G F e (.cond c x y) k w :=
  fun w' hw a ha => wp_cond_split (ha.ev hc) (fun h => ht h w' hw a ha) (fun h => hf h w' hw a ha)
theorem G.condT {c : Operand} {x y : Code} (hc : look e c = some (.bool true)) (h : G F e x k w) : G F e (.cond c x y) k w :=
  fun w' hw a ha => wp_cond_true (ha.ev hc) (h w' hw a ha)
theorem G.condF {c : Operand} {x y : Code} (hc : look e c = some (.bool false)) (h : G F e y k w) : G F e (.cond c x y) k w :=
  fun w' hw a ha => wp_cond_false (ha.ev hc) (h w' hw a ha)
theorem G.condD {c : Operand} {x y : Code} {p : Prop} [Decidable p] (hc : look e c = some (.bool (decide p))) (ht : p → G F e x k w) (hf : ¬ p → G F e y k w) : G F e (.cond c x y) k w :=
  G.cond hc (fun h => ht (of_decide_eq_true h)) (fun h => hf (of_decide_eq_false h))
theorem G.keep (e' : Env) {c : Code} (hs : Sub e' e) (h : G F e' c k w) : G F e c k w := fun w' hw a ha => h w' hw a (ha.sub hs)
theorem A.keep (e' : Env) (hs : Sub e' e) (h : A F e' k w) : A F e k w := fun w' hw a ha => h w' hw a (ha.sub hs)
theorem O.keep (e' : Env) {all ops : List Oper} (hs : Sub e' e) (h : O F e' all ops k w) : O F e all ops k w := fun w' hw a ha => h w' hw a (ha.sub hs)
theorem G.loop {S : Type} {c : Code} (E : S → Env) (W : S → World) (I : S → Prop) (m : S → Nat) (s0 : S) (hE : Sub (E s0) e) (hW : W s0 = w) (h0 : I s0)
    (step : ∀ (s : S) (J : Act → World → Prop), I s → (∀ s', I s' → m s' < m s → A F (E s') (.inv J :: k) (W s')) → G F (E s) c (.inv J :: k) (W s)) : G F e (.loop c) k w := by
  intro w' hw a ha
  refine wp_loopS (fun s a w' => I s ∧ Same (W s) w' ∧ Ag F.z (E s) a) m s0 ⟨h0, hW ▸ hw, ha.sub hE⟩ ?_
  rintro s a w' ⟨hI, hs, hag⟩
  exact step s (fun a w' => ∃ s', (I s' ∧ Same (W s') w' ∧ Ag F.z (E s') a) ∧ m s' < m s) hI (fun s' hI' hm w2 hw2 a2 ha2 => ⟨s', ⟨hI', hw2, ha2⟩, hm⟩) w' hs a hag
theorem A.of {e' : Env} (h : A F e' k w) (hs : Sub e' e) : A F e k w := A.keep e' hs h
theorem A.meet {S : Type} (E : S → Env) (W : S → World) (I : S → Prop) (h : ∀ s, I s → A F (E s) k (W s)) (s : S) (hs : I s) (hE : Sub (E s) e) (hW : W s = w) : A F e k w := by
  subst hW; exact (h s hs).of hE
theorem G.meet {c : Code} {S : Type} (E : S → Env) (W : S → World) (I : S → Prop) (h : ∀ s, I s → A F (E s) k (W s)) (next : (∀ s, I s → A F (E s) k (W s)) → G F e c k w) : G F e c k w := next h
end
end Go.Proofs.YthliepcjfnjnoaaGreatDoor
namespace Go.Proofs.YthliepcjfnjnoaaGreatDoor
open Go
def Ret (Post : Value → World → Prop) : Ending → World → Prop := fun e w' => ∃ r w2, Same w2 w' ∧ e = .returned r ∧ Post r w2
def Fn (P : Program) (f : FuncId) (args : List Value) (w : World) (Post : Value → World → Prop) : Prop :=
  (∀ w', (callFunc f args.toArray).run P w' = .ok (.enter f args.toArray) w') ∧ ∀ w', Same w w' → Calls P f args.toArray w' (Ret Post)
theorem Fn.mono {P : Program} {f : FuncId} {args : List Value} {w : World} {Post Post' : Value → World → Prop} (h : Fn P f args w Post) (hp : ∀ r w', Post r w' → Post' r w') : Fn P f args w Post' :=
  ⟨h.1, fun w' hw => (h.2 w' hw).mono fun e w2 ⟨r, w3, h1, h2, h3⟩ => ⟨r, w3, h1, h2, hp r w3 h3⟩⟩
def argEnv : Nat → List Value → Env
  | _, [] => []
  | i, v :: r => (i, v) :: argEnv (i + 1) r
theorem argEnv_get : ∀ (l : List Value) (i t : Nat) (v : Value), (argEnv i l).get t = some v → i ≤ t ∧ l[t - i]? = some v
  | [], _, _, _, h => by cases h
  | x :: r, i, t, v, h => by
    simp only [argEnv, Env.get, cond_eq_ite, Nat.beq_eq] at h
    by_cases hit : i = t
    · subst hit; simp at h; subst h; simp
    · rw [if_neg hit] at h
      obtain ⟨h1, h2⟩ := argEnv_get r (i + 1) t v h
      refine ⟨by omega, ?_⟩
      rw [show t - i = (t - (i + 1)) + 1 by omega]
      simpa using h2
theorem Fn.enter {P : Program} {f : FuncId} {fn : Func} {c : Code} {args : List Value} {w : World} {Post : Value → World → Prop}
    (hc : ∀ w', (callFunc f args.toArray).run P w' = .ok (.enter f args.toArray) w') (hf : P.funcs[f]? = some fn) (hb : fn.body = some c)
    (h : G ⟨P, ⟨fn.ntmps, []⟩, bodyPost P fn (Ret Post)⟩ (argEnv 0 args) c [] w) : Fn P f args w Post := by
  refine ⟨hc, fun w' hw => calls_of_wp hf hb (h w' hw _ ⟨rfl, ?_, ?_⟩)⟩
  · simp; omega
  · intro t v ht
    obtain ⟨_, h2⟩ := argEnv_get args 0 t v ht
    simp only [Nat.sub_zero] at h2
    have hlt : t < args.length := (List.getElem?_eq_some_iff.1 h2).1
    rw [Array.getD_eq_getD_getElem?, Array.getElem?_append_left (by simpa using hlt)]
    simp [h2]
def resOf (e : Env) : List ResultVar → Option (List Value)
  | [] => some []
  | .tmp t :: r => match e.get t, resOf e r with | some v, some vs => some (v :: vs) | _, _ => none
  | .cell _ _ :: _ => none
def outV : List Value → Value
  | [v] => v
  | vs => .tuple vs.toArray
theorem resOf_run {n : Sz} {e : Env} {a : Act} (ha : Ag n e a) (P : Program) (w : World) (f : ResultVar → Sem Value)
    (hf : ∀ t, f (.tmp t) = pure (a.tmps.getD t undef)) :
    ∀ (l : List ResultVar) (vs : List Value), resOf e l = some vs → (l.mapM f).run P w = .ok vs w := by
  intro l
  induction l with
  | nil => intro vs h; simp [resOf] at h; subst h; rfl
  | cons x r ih =>
    intro vs h
    cases x with
    | cell _ _ => simp [resOf] at h
    | tmp t =>
      simp only [resOf] at h
      split at h
      · rename_i v us h1 h2
        cases h
        have := ha.2.2 t v h1
        simp [List.mapM_cons, hf, this, ih us h2]
      · cases h
theorem results_of {n : Sz} {e : Env} {a : Act} (ha : Ag n e a) {P : Program} {fn : Func} {vs : List Value} (h : resOf e fn.results.toList = some vs) (w : World) :
    (results fn a.tmps).run P w = .ok (outV vs) w := by
  unfold results
  rw [Sem.run_bind, Array.mapM_eq_mapM_toList]
  rw [Sem.run_map, resOf_run ha P w _ (fun t => by rfl) _ _ h]
  simp only [Result.andThen_ok]
  match vs with
  | [] => rfl
  | [v] => rfl
  | v :: u :: r => simp [outV]
theorem G.ret {P : Program} {fn : Func} {n : Nat} {Post : Value → World → Prop} {e : Env} {k : List It} {w : World} (vs : List Value)
    (hv : resOf e fn.results.toList = some vs) (hp : Post (outV vs) w) : G ⟨P, ⟨n, []⟩, bodyPost P fn (Ret Post)⟩ e .ret k w :=
  fun w' hw a ha => wp_ret (post_ret k a w' ⟨ha.1, outV vs, results_of ha hv w', outV vs, w, hw, rfl, hp⟩)
theorem A.fin {P : Program} {fn : Func} {n : Nat} {Post : Value → World → Prop} {e : Env} {w : World} (vs : List Value)
    (hv : resOf e fn.results.toList = some vs) (hp : Post (outV vs) w) : A ⟨P, ⟨n, []⟩, bodyPost P fn (Ret Post)⟩ e [] w :=
  fun w' hw a ha => ⟨ha.1, outV vs, results_of ha hv w', outV vs, w, hw, rfl, hp⟩
def gd (e : Env) (all : List Oper) : Option (Nat × Bool) → Option Bool
  | none => some true
  | some (j, want) =>
    match all[j]? with
    | some o =>
      match o.dst with
      | some t =>
        match e.get t with
        | some (.bool b) => some (b == want)
        | some (.tuple _) => some false
        | _ => none
      | none => none
    | none => none
theorem gd_wanted {n : Sz} {e : Env} {a : Act} (ha : Ag n e a) {all : List Oper} {o : Oper} {b : Bool} (h : gd e all o.guard = some b) :
    Region.wanted o (yielded all.toArray a.tmps) = b := by
  unfold gd at h
  unfold Region.wanted
  split at h
  · rename_i hg
    simp only [hg]
    cases h
    rfl
  · rename_i j want hg
    simp only [hg]
    split at h
    · rename_i oj hj
      split at h
      · rename_i t ht
        split at h
        · rename_i c hc
          cases h
          have h1 := ha.2.2 t _ hc
          have hy : a.tmps[t]? = some (.bool c) := by
            rw [Array.getD_eq_getD_getElem?] at h1
            cases hx : a.tmps[t]? with
            | none => rw [hx] at h1; simp [undef] at h1
            | some v => rw [hx] at h1; simpa using h1
          simp [yielded, hj, ht, hy]
        · rename_i c hc
          cases h
          have h1 := ha.2.2 t _ hc
          rw [Array.getD_eq_getD_getElem?] at h1
          cases hx : a.tmps[t]? with
          | none => simp [yielded, hj, ht, hx]
          | some v => rw [hx] at h1; simp at h1; subst h1; simp [yielded, hj, ht, hx]
        · cases h
      · cases h
    · cases h
section
variable {F : Fr} {e : Env} {k : List It} {w : World} {all rest : List Oper} {d : Nat} {op : Op} {ty : TypeId} {pos : String} {af : Array Edge} {g : Option (Nat × Bool)}
theorem O.nil (h : A F e k w) : O F e all [] k w := fun w' hw a ha => h w' hw a ha
theorem O.step (Post : Value → World → Prop) (hd : Nat.blt d F.n = true) (hg : gd e all g = some true)
    (h : ∀ w', Same w w' → ∀ ρ : Operand → Value, (∀ x u, look e x = some u → ρ x = u) → ∃ v w2 w3, (execOp ρ ⟨some d, op, ty, pos, af, g⟩).run F.P w' = .ok (.value v) w3 ∧ Same w2 w3 ∧ Post v w2)
    (next : ∀ v w2, Post v w2 → O F ((d, v) :: e) all rest k w2) : O F e all (⟨some d, op, ty, pos, af, g⟩ :: rest) k w := by
  intro w' hw a ha
  refine wpList_step fun K hK => ?_
  rw [if_pos (gd_wanted ha hg)]
  obtain ⟨v, w2, w3, hr, hs, hp⟩ := h w' hw a.eval (fun x u hx => ha.ev hx)
  unfold Oper.wp
  rw [hr]
  exact hK _ _ (next v w2 hp w3 hs _ (ha.put hd v))
theorem O.skip (hd : Nat.blt d F.n = true) (hg : gd e all g = some false) (next : O F ((d, undef) :: e) all rest k w) : O F e all (⟨some d, op, ty, pos, af, g⟩ :: rest) k w := by
  intro w' hw a ha
  refine wpList_step fun K hK => ?_
  rw [if_neg (by rw [gd_wanted ha hg]; simp)]
  exact hK _ _ (next w' hw _ (ha.put hd undef))
theorem O.skip0 (hg : gd e all g = some false) (next : O F e all rest k w) : O F e all (⟨none, op, ty, pos, af, g⟩ :: rest) k w := by
  intro w' hw a ha
  refine wpList_step fun K hK => ?_
  rw [if_neg (by rw [gd_wanted ha hg]; simp)]
  exact hK _ _ (next w' hw _ (ha.put0 undef))
theorem O.case (t : Nat) {ops : List Oper} {b : Bool} (h : e.get t = some (.bool b)) (h1 : b = true → O F ((t, .bool true) :: e) all ops k w) (h2 : b = false → O F ((t, .bool false) :: e) all ops k w) : O F e all ops k w := by
  have hkeep : ∀ {n : Sz} {a : Act}, Ag n e a → Ag n ((t, .bool b) :: e) a := fun ha => ⟨ha.1, ha.2.1, fun t' v' h' => by
    simp only [Env.get, cond_eq_ite, Nat.beq_eq] at h'
    by_cases ht : t = t'
    · subst ht; simp at h'; subst h'; exact ha.2.2 _ _ h
    · rw [if_neg ht] at h'; exact ha.2.2 _ _ h'⟩
  intro w' hw a ha
  cases b
  · exact h2 rfl w' hw a (hkeep ha)
  · exact h1 rfl w' hw a (hkeep ha)
theorem O.caseD (t : Nat) {ops : List Oper} {p : Prop} [Decidable p] (h : e.get t = some (.bool (decide p))) (h1 : p → O F ((t, .bool true) :: e) all ops k w) (h2 : ¬ p → O F ((t, .bool false) :: e) all ops k w) : O F e all ops k w :=
  O.case t h (fun hb => h1 (of_decide_eq_true hb)) (fun hb => h2 (of_decide_eq_false hb))
def Ev (P : Program) (e : Env) (op : Op) (w : World) (v : Value) : Prop :=
  ∀ w', Ext (fun _ => False) w w' → ∀ ρ : Operand → Value, (∀ x u, look e x = some u → ρ x = u) → ∀ o : Oper, o.op = op → (execOp ρ o).run P w' = .ok (.value v) w'
theorem O.p {v : Value} (hd : Nat.blt d F.n = true) (hg : gd e all g = some true) (h : Ev F.P e op w v) (next : O F ((d, v) :: e) all rest k w) : O F e all (⟨some d, op, ty, pos, af, g⟩ :: rest) k w := by
  intro w' hw a ha
  refine wpList_step fun K hK => ?_
  rw [if_pos (gd_wanted ha hg)]
  unfold Oper.wp
  rw [h w' (.same hw) a.eval (fun x u hx => ha.ev hx) _ rfl]
  exact hK _ _ (next w' hw _ (ha.put hd v))
theorem D.nil (h : A F e k w) : D F e all [] k w := by
  intro w' hw a ha
  refine wpQuiet_nil ?_
  intro w2 hw2
  exact h _ (hw.trans hw2) a ha
theorem D.p {v : Value} (hd : Nat.blt d F.n = true) (hg : gd e all g = some true) (h : Ev F.P e op w v) (next : D F ((d, v) :: e) all rest k w) : D F e all (⟨some d, op, ty, pos, af, g⟩ :: rest) k w := by
  intro w' hw a ha
  refine wpQuiet_step fun K hK => ?_
  rw [if_pos (gd_wanted ha hg)]
  refine ⟨v, ?_, hK _ (next w' hw _ (ha.put hd v))⟩
  intro w2 hw2
  unfold Oper.quietAt
  rw [h _ (.same (hw.trans hw2)) a.eval (fun x u hx => ha.ev hx) _ rfl]
  exact ⟨rfl, rfl⟩
theorem D.skip (hd : Nat.blt d F.n = true) (hg : gd e all g = some false) (next : D F ((d, undef) :: e) all rest k w) : D F e all (⟨some d, op, ty, pos, af, g⟩ :: rest) k w := by
  intro w' hw a ha
  refine wpQuiet_step fun K hK => ?_
  rw [if_neg (by rw [gd_wanted ha hg]; simp)]
  exact hK _ (next w' hw _ (ha.put hd undef))
theorem D.case (t : Nat) {ops : List Oper} {b : Bool} (h : e.get t = some (.bool b)) (h1 : b = true → D F ((t, .bool true) :: e) all ops k w) (h2 : b = false → D F ((t, .bool false) :: e) all ops k w) : D F e all ops k w := by
  have hkeep : ∀ {n : Sz} {a : Act}, Ag n e a → Ag n ((t, .bool b) :: e) a := fun ha => ⟨ha.1, ha.2.1, fun t' v' h' => by
    simp only [Env.get, cond_eq_ite, Nat.beq_eq] at h'
    by_cases ht : t = t'
    · subst ht; simp at h'; subst h'; exact ha.2.2 _ _ h
    · rw [if_neg ht] at h'; exact ha.2.2 _ _ h'⟩
  intro w' hw a ha
  cases b
  · exact h2 rfl w' hw a (hkeep ha)
  · exact h1 rfl w' hw a (hkeep ha)
theorem D.caseD (t : Nat) {ops : List Oper} {p : Prop} [Decidable p] (h : e.get t = some (.bool (decide p))) (h1 : p → D F ((t, .bool true) :: e) all ops k w) (h2 : ¬ p → D F ((t, .bool false) :: e) all ops k w) : D F e all ops k w :=
  D.case t h (fun hb => h1 (of_decide_eq_true hb)) (fun hb => h2 (of_decide_eq_false hb))
theorem look_args {e : Env} {ρ : Operand → Value} (hρ : ∀ x u, look e x = some u → ρ x = u) : ∀ (xs : List Operand) (vs : List Value), xs.mapM (look e) = some vs → xs.map ρ = vs
  | [], vs, h => by simpa using h
  | x :: xs, vs, h => by
    simp only [List.mapM_cons, Option.pure_def, Option.bind_eq_bind] at h
    cases hx : look e x with
    | none => simp [hx] at h
    | some u =>
      cases hr : xs.mapM (look e) with
      | none => simp [hx, hr] at h
      | some us =>
        simp [hx, hr] at h
        subst h
        simp [hρ x u hx, look_args hρ xs us hr]
theorem run_call_value {P : Program} {ρ : Operand → Value} {o : Oper} {c : Operand} {f : FuncId} {xs : List Operand} {ats : Array TypeId} {first captured : List Value}
    (ho : o.op = .call { callee := .value c, args := xs.toArray, argTypes := ats }) (hc : ρ c = .func (.func f) first.toArray captured.toArray) (w : World) :
    (execOp ρ o).run P w = (callFunc f (first ++ xs.map ρ ++ captured).toArray).run P w := by
  simp [execOp, ho, resolve, Deferred.ofValue, hc, invoke]
theorem O.call {c : Operand} {f : FuncId} {xs : List Operand} {ats : Array TypeId} {vs first captured : List Value} {Post : Value → World → Prop} (hd : Nat.blt d F.n = true) (hg : gd e all g = some true)
    (hf : look e c = some (.func (.func f) first.toArray captured.toArray)) (hx : xs.mapM (look e) = some vs) (hc : Fn F.P f (first ++ vs ++ captured) w Post) (next : ∀ r w2, Post r w2 → O F ((d, r) :: e) all rest k w2) :
    O F e all (⟨some d, .call { callee := .value c, args := xs.toArray, argTypes := ats }, ty, pos, af, g⟩ :: rest) k w := by
  intro w' hw a ha
  refine wpList_step fun K hK => ?_
  rw [if_pos (gd_wanted ha hg)]
  unfold Oper.wp
  rw [run_call_value rfl (ha.ev hf), look_args (fun x u hx => ha.ev hx) xs vs hx, hc.1 w', Oper.upon_enter]
  refine (hc.2 w' hw).mono fun en w3 ⟨r, w2, hs, he, hp⟩ => ?_
  subst he
  exact hK _ _ (next r w2 hp w3 hs _ (ha.put hd r))
theorem D.call {c : Operand} {f : FuncId} {xs : List Operand} {ats : Array TypeId} {vs first captured : List Value} {v : Value} (hd : Nat.blt d F.n = true) (hg : gd e all g = some true)
    (hf : look e c = some (.func (.func f) first.toArray captured.toArray)) (hx : xs.mapM (look e) = some vs) (hc : Fn F.P f (first ++ vs ++ captured) w (fun r w2 => r = v ∧ Same w w2)) (next : D F ((d, v) :: e) all rest k w) :
    D F e all (⟨some d, .call { callee := .value c, args := xs.toArray, argTypes := ats }, ty, pos, af, g⟩ :: rest) k w := by
  intro w' hw a ha
  refine wpQuiet_step fun K hK => ?_
  rw [if_pos (gd_wanted ha hg)]
  refine ⟨v, ?_, hK _ (next w' hw _ (ha.put hd v))⟩
  intro w2 hw2
  unfold Oper.quietAt
  rw [run_call_value rfl (ha.ev hf), look_args (fun x u hx => ha.ev hx) xs vs hx, hc.1 w2]
  refine ⟨rfl, (hc.2 w2 (hw.trans hw2)).mono fun en w3 ⟨r, w4, hs, he, hr, h4⟩ => ?_⟩
  subst he hr
  exact ⟨rfl, hw.symm.trans (h4.trans hs)⟩
theorem O.cl {c : Operand} {f : FuncId} {xs : List Operand} {ats : Array TypeId} {vs : List Value} {Post : Value → World → Prop} (hd : Nat.blt d F.n = true) (hg : gd e all g = some true)
    (hf : look e c = some (.func (.func f) #[] #[])) (hx : xs.mapM (look e) = some vs) (hc : Fn F.P f vs w Post) (next : ∀ r w2, Post r w2 → O F ((d, r) :: e) all rest k w2) :
    O F e all (⟨some d, .call { callee := .value c, args := xs.toArray, argTypes := ats }, ty, pos, af, g⟩ :: rest) k w := O.call (first := []) (captured := []) hd hg hf hx (by rw [List.nil_append, List.append_nil]; exact hc) next
theorem D.cl {c : Operand} {f : FuncId} {xs : List Operand} {ats : Array TypeId} {vs : List Value} {v : Value} (hd : Nat.blt d F.n = true) (hg : gd e all g = some true)
    (hf : look e c = some (.func (.func f) #[] #[])) (hx : xs.mapM (look e) = some vs) (hc : Fn F.P f vs w (fun r w2 => r = v ∧ Same w w2)) (next : D F ((d, v) :: e) all rest k w) :
    D F e all (⟨some d, .call { callee := .value c, args := xs.toArray, argTypes := ats }, ty, pos, af, g⟩ :: rest) k w := D.call (first := []) (captured := []) hd hg hf hx (by rw [List.nil_append, List.append_nil]; exact hc) next
end
theorem Ext.au {S : Nat → Prop} {w w2 : World} (h : Ext S w w2 := by repeat (first | exact Ext.refl _ | assumption | refine Ext.trans (by assumption) ?_)) : Ext S w w2 := h
theorem Ev.au {P : Program} {e : Env} {op : Op} {w : World} {v : Value} (h : Ev P e op w v := by
  first
  | exact .mv rfl
  | exact .as rfl
  | exact .extract rfl rfl
  | exact .fieldAddr rfl rfl rfl rfl
  | exact .nilCheck rfl
  | exact .len rfl rfl
  | exact .lenS rfl rfl
  | exact .eq rfl rfl
  | exact .ne rfl rfl
  | exact .lt rfl rfl
  | exact .le rfl rfl
  | exact .gt rfl rfl
  | exact .ge rfl rfl
  | exact .add rfl rfl (by omega)
  | exact .sub rfl rfl (by omega)
  | exact .mul rfl rfl (by omega)
  | exact .quo rfl rfl (by omega)
  | exact .rem rfl rfl (by omega)
  | exact .pickT rfl rfl
  | exact .pickF rfl rfl
  | exact .indexAddr rfl rfl rfl rfl (by omega)
  | exact .indexAddr1 rfl rfl rfl rfl (by omega)
  | exact .indexAddrA rfl rfl rfl rfl (by omega)
  | exact .indexAddrA1 rfl rfl rfl rfl (by omega)
  | exact .eqS rfl rfl
  | exact .neS rfl rfl
  | exact .ltS rfl rfl
  | exact .gtS rfl rfl
  | exact .geS rfl rfl
  | exact .addS rfl rfl (by omega)
  | exact .notD rfl
  | exact .not rfl
  | exact .eqB rfl rfl rfl
  | exact .neB rfl rfl rfl
  | exact .convSame rfl rfl rfl
  | exact .convI rfl rfl rfl (by omega)
  | exact .convU rfl rfl rfl (by omega)
  | exact .conv8_U rfl rfl rfl
  | exact .conv32_U rfl rfl rfl
  | exact .convB rfl rfl rfl (by omega)
  | exact .convW rfl rfl rfl (by omega)
  | exact .addU rfl rfl (by omega)
  | exact .subU rfl rfl (by omega)
  | exact .mulU rfl rfl (by omega)
  | exact .min2 rfl rfl
  | exact .max2 rfl rfl
  | exact .min3 rfl rfl rfl
  | exact .max3 rfl rfl rfl
  | exact .mkIface rfl rfl rfl
  | exact .makeFunc rfl rfl
  | exact .build rfl (fun _ => by kernel_rfl)) : Ev P e op w v := h
structure Hold (q : Prop) : Prop where
  out : q
theorem W1 {p q : Prop} (h : q) (a : Hold q → p := by
  intro x
  first
  | refine .p rfl rfl .au ?_
  | refine .p rfl rfl rfl (fun wx hx => .au) ?_
  | refine .p rfl rfl rfl rfl (fun wx hx => .au) ?_
  | refine .nil ?_
  | refine .blk ?_
  | refine .sco ?_
  | refine .code ?_
  | refine .seq ?_
  | refine .region ?_
  | refine .skip ?_
  | refine .block ?_
  | refine .condF rfl ?_
  | refine .condT rfl ?_
  | refine .exit rfl ?_
  | refine .skip rfl rfl ?_
  | refine .skip rfl rfl rfl ?_
  | refine .skip0 rfl ?_
  | refine .draws (by kernel_rfl) (by kernel_rfl) ?_
  | refine .scope ?_
  | refine .label ?_
  exact x.out) : p := a ⟨h⟩
theorem W2 {p q : Prop} (h : q) (a : Hold q → p := by intro x; (iterate 2 refine W1 ?_); exact x.out) : p := a ⟨h⟩
theorem W3 {p q : Prop} (h : q) (a : Hold q → p := by intro x; (iterate 3 refine W1 ?_); exact x.out) : p := a ⟨h⟩
theorem W4 {p q : Prop} (h : q) (a : Hold q → p := by intro x; (iterate 4 refine W1 ?_); exact x.out) : p := a ⟨h⟩
theorem W5 {p q : Prop} (h : q) (a : Hold q → p := by intro x; (iterate 5 refine W1 ?_); exact x.out) : p := a ⟨h⟩
theorem W6 {p q : Prop} (h : q) (a : Hold q → p := by intro x; (iterate 6 refine W1 ?_); exact x.out) : p := a ⟨h⟩
theorem W7 {p q : Prop} (h : q) (a : Hold q → p := by intro x; (iterate 7 refine W1 ?_); exact x.out) : p := a ⟨h⟩
theorem W8 {p q : Prop} (h : q) (a : Hold q → p := by intro x; (iterate 8 refine W1 ?_); exact x.out) : p := a ⟨h⟩
theorem W9 {p q : Prop} (h : q) (a : Hold q → p := by intro x; (iterate 9 refine W1 ?_); exact x.out) : p := a ⟨h⟩
theorem W10 {p q : Prop} (h : q) (a : Hold q → p := by intro x; (iterate 10 refine W1 ?_); exact x.out) : p := a ⟨h⟩
theorem W11 {p q : Prop} (h : q) (a : Hold q → p := by intro x; (iterate 11 refine W1 ?_); exact x.out) : p := a ⟨h⟩
theorem W12 {p q : Prop} (h : q) (a : Hold q → p := by intro x; (iterate 12 refine W1 ?_); exact x.out) : p := a ⟨h⟩
theorem W13 {p q : Prop} (h : q) (a : Hold q → p := by intro x; (iterate 13 refine W1 ?_); exact x.out) : p := a ⟨h⟩
theorem W14 {p q : Prop} (h : q) (a : Hold q → p := by intro x; (iterate 14 refine W1 ?_); exact x.out) : p := a ⟨h⟩
theorem W17 {p q : Prop} (h : q) (a : Hold q → p := by intro x; (iterate 17 refine W1 ?_); exact x.out) : p := a ⟨h⟩
end Go.Proofs.YthliepcjfnjnoaaGreatDoor
