import Derived.Test.YthliepcjfnjnoaaGreatDoorB03
import Derived.Test.YthliepcjfnjnoaaGreatDoorB06
import Derived.Test.YthliepcjfnjnoaaGreatDoorB04
set_option linter.unusedVariables false
set_option linter.unusedSimpArgs false
set_option maxRecDepth 20000
namespace Go.Proofs.YthliepcjfnjnoaaGreatDoor
open Go
section
variable {P : Program} {ops : Array Oper} {md : Region.Mode} {C : World → Prop} {act : Nat → Bool}
def okG (act : Nat → Bool) (o : Option Nat) (j : Nat) : Prop := act j = true → o = none ∨ o = some j
def nx (act : Nat → Bool) (o : Option Nat) (j : Nat) : Option Nat := if act j then none else o
theorem nx_comm (o : Option Nat) (i j : Nat) : nx act (nx act o i) j = nx act (nx act o j) i := by
  unfold nx
  cases act i <;> cases act j <;> rfl
def wpAnyG (P : Program) (md : Region.Mode) (ops : Array Oper) (C : World → Prop) (act : Nat → Bool) (Q : Act → World → Prop) : Nat → Option Nat → Array Bool → Act → World → Prop
  | 0, _, listed, a, w => Region.ready md ops listed = [] ∧ Q a w
  | fuel + 1, o, listed, a, w =>
    (Region.ready md ops listed = [] → Q a w) ∧
    ∀ i ∈ Region.ready md ops listed, okG act o i → mOp P md ops C act i (wpAnyG P md ops C act Q fuel (nx act o i) (listed.setIfInBounds i true)) a w
theorem wpAnyM_of_G {Q : Act → World → Prop} : ∀ (fuel : Nat) (listed : Array Bool) (a : Act) (w : World), wpAnyG P md ops C act Q fuel none listed a w → wpAnyM P md ops C act Q fuel listed a w
  | 0, _, _, _, h => h
  | fuel + 1, listed, a, w, h => by
    refine ⟨h.1, fun i hi => mOp_mono (fun a' w' h' => wpAnyM_of_G fuel _ _ _ ?_) (h.2 i hi (fun _ => .inl rfl))⟩
    have : nx act none i = none := by unfold nx; split <;> rfl
    rwa [this] at h'
theorem mG_first {Q : Act → World → Prop} {i : Nat} {oi : Oper} (hi : ops[i]? = some oi) (hsel : ∀ (j : Nat) (o : Oper) cs b, ops[j]? = some o → o.op ≠ .select cs b) 
    :
    ∀ (fuel : Nat) (o : Option Nat) (listed : Array Bool) (a : Act) (w : World), (act i = true → o = some i) → C w ∨ Lin md ops act listed → Closed md ops listed →
      (∀ j oj, ops[j]? = some oj → j ≠ i → listed.getD j true = false → (∀ e ∈ oj.after, Region.binds md e = true → e.on ≠ i) → oi.apart ops oj = true) →
      i ∈ Region.ready md ops listed →
      mOp P md ops C act i (wpAnyG P md ops C act Q fuel (nx act o i) (listed.setIfInBounds i true)) a w → wpAnyG P md ops C act Q (fuel + 1) o listed a w := by
  intro fuel
  induction fuel with
  | zero =>
    intro o listed a w hact hCw hcl _ hr H
    refine ⟨fun h => (by rw [h] at hr; cases hr), fun j hj hok => ?_⟩
    by_cases hji : j = i
    · subst hji; exact H
    · exfalso
      have hex : ∃ a' w', wpAnyG P md ops C act Q 0 (nx act o i) (listed.setIfInBounds i true) a' w' := by
        unfold mOp at H
        simp only [hi] at H
        split at H
        · split at H
          · obtain ⟨v, w', _, h⟩ := H.some; exact ⟨_, _, h⟩
          · obtain ⟨v, _, h⟩ := H; exact ⟨_, _, h⟩
        · exact ⟨_, _, H⟩
      obtain ⟨a', w', h⟩ := hex
      have := ready_mono hj hji
      rw [h.1] at this
      cases this
  | succ fuel ih =>
    intro o listed a w hact hCw hcl hfree hr H
    refine ⟨fun h => (by rw [h] at hr; cases hr), fun j hj hok => ?_⟩
    by_cases hji : j = i
    · subst hji; exact H
    · have hor : C w ∨ freeB ops act j = true ∨ freeB ops act i = true := hCw.imp id (lin_two hcl hr hj hji)
      have hnfj : finB md ops act j = true → freeB ops act i = true := fin_two hcl hj hr (Ne.symm hji)
      have hij : act i = true → act j = false := fun hai => by
        cases haj : act j with
        | false => rfl
        | true =>
          exfalso
          rcases hok haj with h | h <;> rw [hact hai] at h
          · cases h
          · exact hji (Option.some.inj h).symm
      have hact' : act i = true → nx act o j = some i := fun hai => by
        unfold nx
        rw [hij hai]
        exact hact hai
      have hok' : okG act (nx act o i) j := fun haj => by
        have : act i = false := by
          cases hai : act i with
          | false => rfl
          | true => have := hij hai; rw [haj] at this; cases this
        unfold nx
        rw [this]
        exact hok haj
      obtain ⟨hjun, oj, hoj, hall⟩ := mem_ready.1 hj
      have hiun : listed.getD i false = false := by
        have h0 := (mem_ready.1 hr).1
        rcases Nat.lt_or_ge i listed.size with h' | h'
        · simp [h'] at h0 ⊢; exact h0
        · simp [Array.getElem?_eq_none h'] at h0
      have hnot : ∀ e ∈ oj.after, Region.binds md e = true → e.on ≠ i := fun e he hb heq => by
        have h1 := hall e he hb
        rw [heq, hiun] at h1; cases h1
      have hap := hfree j oj hoj hji hjun hnot
      obtain ⟨h1, h2, h3⟩ := Oper.apart_spec hap
      have hsi := fun cs b => hsel i oi cs b hi
      have hsj := fun cs b => hsel j oj cs b hoj
      have hready' := ready_mono hr (Ne.symm hji)
      have hcl' := hcl.set hj
      have hfree' : ∀ k ok, ops[k]? = some ok → k ≠ i → (listed.setIfInBounds j true).getD k true = false →
          (∀ e ∈ ok.after, Region.binds md e = true → e.on ≠ i) → oi.apart ops ok = true := fun k ok hk hki hun hno => by
        refine hfree k ok hk hki ?_ hno
        by_cases hjk : j = k
        · subst hjk; exact hjun
        · rw [getD_set_ne true hjk] at hun; exact hun
      have hjr := ready_mono hj hji
      have hcomm : (listed.setIfInBounds j true).setIfInBounds i true = (listed.setIfInBounds i true).setIfInBounds j true := Array.setIfInBounds_comm _ _ hji
      have behind : ∀ (u : Value) (w' : World), C w' ∨ Lin md ops act (listed.setIfInBounds j true) → (mOp P md ops C act i (fun a' w'' => wpAnyG P md ops C act Q fuel (nx act (nx act o i) j) ((listed.setIfInBounds i true).setIfInBounds j true) a' w'') (a.put oj.dst u) w') →
          wpAnyG P md ops C act Q (fuel + 1) (nx act o j) (listed.setIfInBounds j true) (a.put oj.dst u) w' := fun u w' hC' hm => by
        refine ih _ _ _ _ hact' hC' hcl' hfree' hready' ?_
        rw [hcomm, ← nx_comm]
        exact hm
      have wi : ∀ u, Region.wanted oi (yielded ops (a.put oj.dst u).tmps) = Region.wanted oi (yielded ops a.tmps) := fun u => wanted_put oi a oj.dst u h3
      have ei : ∀ u, execOp (a.put oj.dst u).eval oi = execOp a.eval oi := fun u => execOp_put oi hsi a oj.dst u h3
      have wj : ∀ v, Region.wanted oj (yielded ops (a.put oi.dst v).tmps) = Region.wanted oj (yielded ops a.tmps) := fun v => wanted_put oj a oi.dst v h1
      have ej : ∀ v, execOp (a.put oi.dst v).eval oj = execOp a.eval oj := fun v => execOp_put oj hsj a oi.dst v h1
      have pc : ∀ v u, (a.put oi.dst v).put oj.dst u = (a.put oj.dst u).put oi.dst v := fun v u => Act.put_comm a v u h2
      unfold mOp at H
      simp only [hi] at H
      by_cases hwi : Region.wanted oi (yielded ops a.tmps) = true
      · simp only [hwi, if_true] at H
        by_cases hai : act i = true
        · -- i turns the world: j only looks
          simp only [hai, if_true] at H
          have hnf : finB md ops act i = true → freeB ops act j = true := fin_two hcl hr hj hji
          have hor : C w ∨ freeB ops act j = true := hor.imp id (fun h => h.resolve_right (fun h => freeB_act h hai))
          have haj : act j = false := hij hai
          unfold mOp
          simp only [hoj]
          have H' : does P oi a w (fun v w1 => (C w1 ∨ finB md ops act i = true) ∧ mOp P md ops C act j (wpAnyG P md ops C act Q fuel (nx act (nx act o i) j) ((listed.setIfInBounds i true).setIfInBounds j true)) (a.put oi.dst v) w1) :=
            H.mono fun v w1 ⟨hc, hk⟩ => ⟨hc, hk.2 j hjr hok'⟩
          by_cases hwj : Region.wanted oj (yielded ops a.tmps) = true
          · simp only [hwj, if_true, haj, Bool.false_eq_true, if_false]
            obtain ⟨v0, w0, hc0, hk0⟩ := H'.some
            unfold mOp at hk0
            simp only [hoj, wj, hwj, if_true, haj, Bool.false_eq_true, if_false, ej] at hk0
            obtain ⟨u, hu, _⟩ := hk0
            have hall : ∀ w2, C w2 ∨ w2 = w → (execOp a.eval oj).run P w2 = .ok (.value u) w2 := fun w2 h => by
              rcases hor with hCw | hf
              · rcases hc0.imp id hnf with hc0 | hf
                · exact hu w2 (.inl (h.elim id (fun e => e ▸ hCw)))
                · exact freeB_run hf hoj (hu w0 (.inr rfl)) w2
              · exact freeB_run hf hoj (hu w0 (.inr rfl)) w2
            refine ⟨u, hall, behind u w (hCw.imp id Lin.set) ?_⟩
            unfold mOp
            simp only [hi, wi, hwi, if_true, hai]
            have : does P oi a w (fun v w1 => (C w1 ∨ finB md ops act i = true) ∧ wpAnyG P md ops C act Q fuel (nx act (nx act o i) j) ((listed.setIfInBounds i true).setIfInBounds j true) ((a.put oj.dst u).put oi.dst v) w1) := by
              refine H'.mono fun v w1 ⟨hc, hk⟩ => ⟨hc, ?_⟩
              unfold mOp at hk
              simp only [hoj, wj, hwj, if_true, haj, Bool.false_eq_true, if_false, ej] at hk
              obtain ⟨u', hu', hk'⟩ := hk
              have e1 : (execOp a.eval oj).run P w1 = .ok (.value u) w1 := by
                rcases hc.imp id hnf with hc | hf
                · exact hall w1 (.inl hc)
                · exact freeB_run hf hoj (hu w0 (.inr rfl)) w1
              have e := e1.symm.trans (hu' w1 (.inr rfl))
              simp only [Result.ok.injEq, Next.value.injEq, and_true] at e
              subst e
              rw [← pc]
              exact hk'
            unfold does at this ⊢
            rw [ei]
            exact this
          · simp only [hwj, if_false]
            refine behind undef w (hCw.imp id Lin.set) ?_
            unfold mOp
            simp only [hi, wi, hwi, if_true, hai]
            have : does P oi a w (fun v w1 => (C w1 ∨ finB md ops act i = true) ∧ wpAnyG P md ops C act Q fuel (nx act (nx act o i) j) ((listed.setIfInBounds i true).setIfInBounds j true) ((a.put oj.dst undef).put oi.dst v) w1) := by
              refine H'.mono fun v w1 ⟨hc, hk⟩ => ⟨hc, ?_⟩
              unfold mOp at hk
              simp only [hoj, wj, hwj, if_false] at hk
              rw [← pc]
              exact hk
            unfold does at this ⊢
            rw [ei]
            exact this
        · -- i only looks
          simp only [hai, if_false] at H
          obtain ⟨v, hv, hk⟩ := H
          have hk2 := hk.2 j hjr hok'
          have mi : ∀ (u : Value) (w' : World), C w' ∨ freeB ops act i = true ∨ w' = w → wpAnyG P md ops C act Q fuel (nx act (nx act o i) j) ((listed.setIfInBounds i true).setIfInBounds j true) ((a.put oi.dst v).put oj.dst u) w' →
              mOp P md ops C act i (fun a' w'' => wpAnyG P md ops C act Q fuel (nx act (nx act o i) j) ((listed.setIfInBounds i true).setIfInBounds j true) a' w'') (a.put oj.dst u) w' := fun u w' hC' h => by
            unfold mOp
            simp only [hi, wi, hwi, if_true, hai, if_false, ei]
            refine ⟨v, fun w2 h => ?_, ?_⟩
            · rcases h with h | rfl
              · exact hv w2 (.inl h)
              · rcases hC' with h | h | rfl
                · exact hv w2 (.inl h)
                · exact freeB_run h hi (hv w (.inr rfl)) w2
                · exact hv w2 (.inr rfl)
            rw [← pc]
            exact h
          unfold mOp at hk2 ⊢
          simp only [hoj, wj] at hk2 ⊢
          by_cases hwj : Region.wanted oj (yielded ops a.tmps) = true
          · simp only [hwj, if_true] at hk2 ⊢
            by_cases haj : act j = true
            · simp only [haj, if_true] at hk2 ⊢
              have : does P oj a w (fun u w1 => (C w1 ∨ finB md ops act j = true) ∧ wpAnyG P md ops C act Q fuel (nx act (nx act o i) j) ((listed.setIfInBounds i true).setIfInBounds j true) ((a.put oi.dst v).put oj.dst u) w1) := by
                unfold does at hk2 ⊢
                rw [ej] at hk2
                exact hk2
              exact this.mono fun u w1 ⟨hc, h⟩ => ⟨hc, behind u w1 (hc.imp id (fin_lin hcl hj)) (mi u w1 (hc.imp id (fun h => .inl (hnfj h))) h)⟩
            · simp only [haj, if_false, ej] at hk2 ⊢
              obtain ⟨u, hu, h⟩ := hk2
              exact ⟨u, hu, behind u w (hCw.imp id Lin.set) (mi u w (.inr (.inr rfl)) h)⟩
          · simp only [hwj, if_false] at hk2 ⊢
            exact behind undef w (hCw.imp id Lin.set) (mi undef w (.inr (.inr rfl)) hk2)
      · -- i is passed over
        simp only [hwi, if_false] at H
        have hk2 := H.2 j hjr hok'
        have mi : ∀ (u : Value) (w' : World), wpAnyG P md ops C act Q fuel (nx act (nx act o i) j) ((listed.setIfInBounds i true).setIfInBounds j true) ((a.put oi.dst undef).put oj.dst u) w' →
            mOp P md ops C act i (fun a' w'' => wpAnyG P md ops C act Q fuel (nx act (nx act o i) j) ((listed.setIfInBounds i true).setIfInBounds j true) a' w'') (a.put oj.dst u) w' := fun u w' h => by
          unfold mOp
          simp only [hi, wi, hwi, if_false]
          rw [← pc]
          exact h
        unfold mOp at hk2 ⊢
        simp only [hoj, wj] at hk2 ⊢
        by_cases hwj : Region.wanted oj (yielded ops a.tmps) = true
        · simp only [hwj, if_true] at hk2 ⊢
          by_cases haj : act j = true
          · simp only [haj, if_true] at hk2 ⊢
            have : does P oj a w (fun u w1 => (C w1 ∨ finB md ops act j = true) ∧ wpAnyG P md ops C act Q fuel (nx act (nx act o i) j) ((listed.setIfInBounds i true).setIfInBounds j true) ((a.put oi.dst undef).put oj.dst u) w1) := by
              unfold does at hk2 ⊢
              rw [ej] at hk2
              exact hk2
            exact this.mono fun u w1 ⟨hc, h⟩ => ⟨hc, behind u w1 (hc.imp id (fin_lin hcl hj)) (mi u w1 h)⟩
          · simp only [haj, if_false, ej] at hk2 ⊢
            obtain ⟨u, hu, h⟩ := hk2
            exact ⟨u, hu, behind u w (hCw.imp id Lin.set) (mi u w h)⟩
        · simp only [hwj, if_false] at hk2 ⊢
          exact behind undef w (hCw.imp id Lin.set) (mi undef w hk2)
inductive Tr where
  | nil
  | op (i : Nat) (t : Tr)
  | alt (i : Nat) (s t : Tr)
  | stop
def coversB (md : Region.Mode) (ops : Array Oper) (act : Nat → Bool) (M : List Nat) (listed : Array Bool) : Bool :=
  (List.range ops.size).all fun j => !act j || listed.getD j false || M.contains j || M.any fun i => waitsB md ops ops.size j i
def Tr.okB (md : Region.Mode) (ops : Array Oper) (act : Nat → Bool) : Tr → Nat → Option Nat → List Nat → Array Bool → Bool
  | .nil, _, _, M, listed => M.isEmpty && (Region.ready md ops listed).isEmpty
  | .op i t, fuel, o, M, listed => M.isEmpty && (match fuel with
    | 0 => false
    | f + 1 => (Region.ready md ops listed).contains i && Region.free md ops listed i && (!act i || o == some i) && Tr.okB md ops act t f (nx act o i) [] (listed.setIfInBounds i true))
  | .alt i s t, fuel, o, M, listed => o.isNone && act i && !listed.getD i true && Tr.okB md ops act s fuel (some i) [] listed && Tr.okB md ops act t fuel none (i :: M) listed
  | .stop, _, o, M, listed => o.isNone && !M.isEmpty && coversB md ops act M listed
def wpTr (P : Program) (md : Region.Mode) (ops : Array Oper) (C : World → Prop) (act : Nat → Bool) (Q : Act → World → Prop) : Tr → Act → World → Prop
  | .nil, a, w => Q a w
  | .op i t, a, w => mOp P md ops C act i (wpTr P md ops C act Q t) a w
  | .alt _ s t, a, w => wpTr P md ops C act Q s a w ∧ wpTr P md ops C act Q t a w
  | .stop, _, _ => True
theorem G_ready_nil {Q : Act → World → Prop} {listed : Array Bool} {a : Act} {w : World} (hr : Region.ready md ops listed = []) (h : Q a w) : ∀ (fuel : Nat) (o : Option Nat), wpAnyG P md ops C act Q fuel o listed a w
  | 0, _ => ⟨hr, h⟩
  | _ + 1, _ => ⟨fun _ => h, fun i hi => by rw [hr] at hi; cases hi⟩
theorem G_split {Q : Act → World → Prop} {M : List Nat} (hne : M ≠ []) (hA : ∀ i ∈ M, act i = true) : ∀ (fuel : Nat) (listed : Array Bool) (a : Act) (w : World), Closed md ops listed → (∀ i ∈ M, listed.getD i true = false) →
    (∀ j, j < ops.size → act j = true → listed.getD j false = true ∨ j ∈ M ∨ ∃ i ∈ M, waitsB md ops ops.size j i = true) →
    (∀ i ∈ M, wpAnyG P md ops C act Q fuel (some i) listed a w) → wpAnyG P md ops C act Q fuel none listed a w
  | 0, listed, a, w, _, _, _, h => by
    obtain ⟨i, hi⟩ := List.exists_mem_of_ne_nil _ hne
    exact h i hi
  | fuel + 1, listed, a, w, hcl, hun, hcov, h => by
    obtain ⟨i0, hi0⟩ := List.exists_mem_of_ne_nil _ hne
    refine ⟨(h i0 hi0).1, fun j hj _ => ?_⟩
    obtain ⟨hjun, oj, hoj, hall⟩ := mem_ready.1 hj
    have hjlt : j < ops.size := (Array.getElem?_eq_some_iff.1 hoj).1
    have hjf : listed.getD j false = false := by
      have := hcl.1
      simp [show j < listed.size by omega] at hjun ⊢
      exact hjun
    have e0 : nx act none j = none := by unfold nx; split <;> rfl
    rw [e0]
    cases haj : act j with
    | true =>
      have hjM : j ∈ M := by
        rcases hcov j hjlt haj with h1 | h1 | ⟨i, hi, h1⟩
        · rw [hjf] at h1; cases h1
        · exact h1
        · exfalso
          have hif : listed.getD i false = false := by
            have := hun i hi
            rcases Nat.lt_or_ge i listed.size with h' | h'
            · simp [h'] at this ⊢; exact this
            · simp [Array.getElem?_eq_none h'] at this
          exact (waits_unlisted hcl hif _ _ h1).2 hj
      have := (h j hjM).2 j hj (fun _ => .inr rfl)
      rwa [show nx act (some j) j = none by unfold nx; rw [haj]; rfl] at this
    | false =>
      have hall' : ∀ i ∈ M, mOp P md ops C act j (wpAnyG P md ops C act Q fuel (some i) (listed.setIfInBounds j true)) a w := fun i hi => by
        have := (h i hi).2 j hj (fun h => by rw [haj] at h; cases h)
        rwa [show nx act (some i) j = some i by unfold nx; rw [haj]; rfl] at this
      have hun' : ∀ i ∈ M, (listed.setIfInBounds j true).getD i true = false := fun i hi => by
        have hij : j ≠ i := fun e => by have := hA i hi; rw [← e, haj] at this; cases this
        rw [getD_set_ne true hij]
        exact hun i hi
      have hcov' : ∀ k, k < ops.size → act k = true → (listed.setIfInBounds j true).getD k false = true ∨ k ∈ M ∨ ∃ i ∈ M, waitsB md ops ops.size k i = true := fun k hk hak => by
        rcases hcov k hk hak with h1 | h1
        · exact .inl (getD_set_true h1)
        · exact .inr h1
      have h0 := hall' i0 hi0
      unfold mOp at h0 ⊢
      simp only [hoj] at h0 ⊢
      split
      · rename_i hwant
        simp only [hwant, if_true, haj, Bool.false_eq_true, if_false] at h0 ⊢
        obtain ⟨v, hv, hk0⟩ := h0
        refine ⟨v, hv, G_split hne hA fuel _ _ _ (hcl.set hj) hun' hcov' (fun i hi => ?_)⟩
        have h1 := hall' i hi
        unfold mOp at h1
        simp only [hoj, hwant, if_true, haj, Bool.false_eq_true, if_false] at h1
        obtain ⟨v', hv', hk'⟩ := h1
        have e := (hv w (.inr rfl)).symm.trans (hv' w (.inr rfl))
        simp only [Result.ok.injEq, Next.value.injEq, and_true] at e
        subst e
        exact hk'
      · rename_i hwant
        refine G_split hne hA fuel _ _ _ (hcl.set hj) hun' hcov' (fun i hi => ?_)
        have h1 := hall' i hi
        unfold mOp at h1
        simp only [hoj, hwant, if_false] at h1
        exact h1
theorem tr_sound {Q : Act → World → Prop} (hs : Region.noSelect ops = true) : ∀ (t : Tr) (fuel : Nat) (o : Option Nat) (M : List Nat) (listed : Array Bool) (a : Act) (w : World), C w ∨ Lin md ops act listed → Closed md ops listed → t.okB md ops act fuel o M listed = true →
    (∀ i ∈ M, act i = true ∧ listed.getD i true = false ∧ wpAnyG P md ops C act Q fuel (some i) listed a w) → wpTr P md ops C act Q t a w → wpAnyG P md ops C act Q fuel o listed a w
  | .nil, fuel, o, M, listed, a, w, hw, hcl, hB, hM, h => by
    simp only [Tr.okB, Bool.and_eq_true, List.isEmpty_iff] at hB
    exact G_ready_nil hB.2 h fuel o
  | .stop, fuel, o, M, listed, a, w, hw, hcl, hB, hM, h => by
    simp only [Tr.okB, Bool.and_eq_true, Bool.not_eq_true', Option.isNone_iff_eq_none] at hB
    obtain ⟨⟨rfl, hne⟩, hc⟩ := hB
    refine G_split (M := M) (fun e => by rw [e] at hne; cases hne) (fun i hi => (hM i hi).1) fuel listed a w hcl (fun i hi => (hM i hi).2.1) (fun j hj haj => ?_) (fun i hi => (hM i hi).2.2)
    unfold coversB at hc
    have := List.all_eq_true.1 hc j (List.mem_range.2 hj)
    simp only [haj, Bool.not_true, Bool.false_or, Bool.or_eq_true, List.contains_iff_mem, List.any_eq_true] at this
    rcases this with (h1 | h1) | h1
    · exact .inl h1
    · exact .inr (.inl h1)
    · exact .inr (.inr h1)
  | .alt i s t, fuel, o, M, listed, a, w, hw, hcl, hB, hM, h => by
    simp only [Tr.okB, Bool.and_eq_true, Bool.not_eq_true', Option.isNone_iff_eq_none] at hB
    obtain ⟨⟨⟨⟨rfl, hi⟩, hl⟩, hs'⟩, ht⟩ := hB
    have h1 := tr_sound hs s fuel (some i) [] listed a w hw hcl hs' (fun _ h => by cases h) h.1
    refine tr_sound hs t fuel none (i :: M) listed a w hw hcl ht (fun j hj => ?_) h.2
    rcases List.mem_cons.1 hj with rfl | hj
    · exact ⟨hi, hl, h1⟩
    · exact hM j hj
  | .op i t, fuel, o, M, listed, a, w, hw, hcl, hB, hM, h => by
    simp only [Tr.okB, Bool.and_eq_true] at hB
    obtain ⟨_, hB⟩ := hB
    cases fuel with
    | zero => cases hB
    | succ f =>
      simp only [Bool.and_eq_true, Bool.or_eq_true, Bool.not_eq_true', beq_iff_eq] at hB
      obtain ⟨⟨⟨hr, hf⟩, hact⟩, hB'⟩ := hB
      have hr' : i ∈ Region.ready md ops listed := by simpa using hr
      obtain ⟨_, oi, hoi, _⟩ := mem_ready.1 hr'
      refine mG_first hoi (Region.noSelect_spec hs) f o listed a w (fun ha => ?_) hw hcl (Region.free_spec hoi hf) hr' ?_
      · rcases hact with h1 | h1
        · rw [ha] at h1; cases h1
        · exact h1
      · have go : ∀ a' w', (C w' ∨ Lin md ops act (listed.setIfInBounds i true)) → wpTr P md ops C act Q t a' w' → wpAnyG P md ops C act Q f (nx act o i) (listed.setIfInBounds i true) a' w' := fun a' w' hw' h' =>
          tr_sound hs t f (nx act o i) [] _ a' w' hw' (hcl.set hr') hB' (fun _ h => by cases h) h'
        simp only [wpTr] at h
        unfold mOp at h ⊢
        simp only [hoi] at h ⊢
        split
        · rename_i hwant
          simp only [hwant, if_true] at h
          split
          · rename_i ha
            simp only [ha, if_true] at h
            exact h.mono fun v w' ⟨h1, h2⟩ => ⟨h1, go _ _ (h1.imp id (fin_lin hcl hr')) h2⟩
          · rename_i ha
            simp only [ha] at h
            obtain ⟨v, h1, h2⟩ := h
            exact ⟨v, h1, go _ _ (hw.imp id Lin.set) h2⟩
        · rename_i hwant
          simp only [hwant] at h
          exact go _ _ (hw.imp id Lin.set) h
theorem wp_region_tr {id : Nat} {Q : Exit → Act → World → Prop} {a : Act} {w : World} (act : Nat → Bool) (t : Tr) (hm : P.follows .mixedOrders = true) (hs : Region.noSelect ops = true) (hB : t.okB .any ops act ops.size none [] (Array.replicate ops.size false) = true)
    (hC : C { w with drawn := w.drawn + 1 }) (h : wpTr P .any ops C act (fun a' w' => Q .normal a' w') t a { w with drawn := w.drawn + 1 }) : (Code.region id ops true).wp P Q a w :=
  wp_region_any hm (wpAny_of_M (C := C) (act := act) (Q := fun a' w' => Q .normal a' w') (fun _ _ h => h) _ _ _ _
    (wpAnyM_of_G _ _ _ _ (tr_sound hs t ops.size none [] _ a _ (.inl hC) ⟨by simp, fun j oj hj hl => by rw [getD_replicate_false] at hl; cases hl⟩ hB (fun _ h => by cases h) h)))
end
def NB (F : Fr) (S : Nat → Prop) (w0 : World) (al : List Nat) (e : Env) (all : List Oper) (t : Tr) (k : List It) (w : World) : Prop :=
  ∀ w', Same w w' → ∀ a, Ag F.z e a → wpTr F.P .any all.toArray (Ext S w0) (fun j => al.contains j) (fun a' w2 => post F k .normal a' w2) t a w'
def N (F : Fr) (S : Nat → Prop) (w0 : World) (al : List Nat) (e : Env) (all : List Oper) (t : Tr) (k : List It) (w : World) : Prop :=
  Ext S w0 w → NB F S w0 al e all t k w
section
variable {F : Fr} {S : Nat → Prop} {w0 : World} {al : List Nat} {e : Env} {k : List It} {w : World} {all : List Oper} {i d : Nat} {op : Op} {ty : TypeId} {pos : String} {af : Array Edge} {g : Option (Nat × Bool)} {t t' : Tr}
theorem G.tree {id : Nat} {l : List Oper} (S : Nat → Prop) (al : List Nat) (t : Tr) (hm : F.P.follows .mixedOrders = true) (hs : Region.noSelect l.toArray = true) (hB : t.okB .any l.toArray (fun j => al.contains j) l.length none [] (Array.replicate l.length false) = true)
    (h : N F S w al e l t k w) : G F e (.region id l.toArray true) k w :=
  fun w' hw a ha => wp_region_tr (C := Ext S w) (fun j => al.contains j) t hm hs (by simpa using hB) (.same (hw.trans (same_draw w'))) (by simpa using h (.refl _) _ (hw.trans (same_draw w')) a ha)
theorem NB.nil (h : A F e k w) : NB F S w0 al e all .nil k w := fun w' hw a ha => h w' hw a ha
theorem NB.stop : NB F S w0 al e all .stop k w := fun _ _ _ _ => trivial
theorem NB.alt (h : NB F S w0 al e all t' k w) (h' : NB F S w0 al e all t k w) : NB F S w0 al e all (.alt i t' t) k w := fun w' hw a ha => ⟨h w' hw a ha, h' w' hw a ha⟩
theorem NB.p {v : Value} (ho : all[i]? = some ⟨some d, op, ty, pos, af, g⟩) (hi : al.contains i = false) (hd : Nat.blt d F.n = true) (hg : gd e all g = some true) (h : ∀ w', Ext S w0 w' ∨ w' = w → Ev F.P e op w' v) (next : NB F S w0 al ((d, v) :: e) all t k w) :
    NB F S w0 al e all (.op i t) k w := by
  intro w' hw a ha
  unfold wpTr mOp
  rw [show all.toArray[i]? = _ by simpa using ho]
  simp only [hi]
  rw [if_pos (gd_wanted ha hg), if_neg (by simp)]
  refine ⟨v, fun w2 hw2 => ?_, next w' hw _ (ha.put hd v)⟩
  rcases hw2 with hw2 | rfl
  · exact h w2 (.inl hw2) w2 (.refl w2) a.eval (fun x u hx => ha.ev hx) _ rfl
  · exact h w (.inr rfl) w2 (.same hw) a.eval (fun x u hx => ha.ev hx) _ rfl
theorem NB.skip (ho : all[i]? = some ⟨some d, op, ty, pos, af, g⟩) (hd : Nat.blt d F.n = true) (hg : gd e all g = some false) (next : NB F S w0 al ((d, undef) :: e) all t k w) : NB F S w0 al e all (.op i t) k w := by
  intro w' hw a ha
  unfold wpTr mOp
  rw [show all.toArray[i]? = _ by simpa using ho]
  simp only
  rw [if_neg (by rw [gd_wanted ha hg]; simp)]
  exact next w' hw _ (ha.put hd undef)
theorem NB.v0 {Post : Value → World → Prop} (ho : all[i]? = some ⟨some d, op, ty, pos, af, g⟩) (hi : al.contains i = true) (hd : Nat.blt d F.n = true) (hg : gd e all g = some true) (h : DoV F.P e op w Post) (hC : ∀ v w2, Post v w2 → Ext S w0 w2 ∨ finB .any all.toArray (fun j => al.contains j) i = true)
    (next : ∀ v w2, Post v w2 → NB F S w0 al ((d, v) :: e) all t k w2) : NB F S w0 al e all (.op i t) k w := by
  intro w' hw a ha
  unfold wpTr mOp
  rw [show all.toArray[i]? = _ by simpa using ho]
  simp only [hi]
  rw [if_pos (gd_wanted ha hg), if_pos trivial]
  obtain ⟨v, w2, w3, hr, hs, hp⟩ := h w' hw a.eval (fun x u hx => ha.ev hx) ⟨some d, op, ty, pos, af, g⟩ rfl
  unfold does
  rw [hr]
  exact ⟨(hC v w2 hp).imp (fun h => h.trans (.same hs)) id, next v w2 hp w3 hs _ (ha.put hd v)⟩
theorem NB.s0 {Post : World → Prop} (ho : all[i]? = some ⟨none, op, ty, pos, af, g⟩) (hi : al.contains i = true) (hg : gd e all g = some true) (h : DoS F.P e op w Post) (hC : ∀ w2, Post w2 → Ext S w0 w2 ∨ finB .any all.toArray (fun j => al.contains j) i = true)
    (next : ∀ w2, Post w2 → NB F S w0 al e all t k w2) : NB F S w0 al e all (.op i t) k w := by
  intro w' hw a ha
  unfold wpTr mOp
  rw [show all.toArray[i]? = _ by simpa using ho]
  simp only [hi]
  rw [if_pos (gd_wanted ha hg), if_pos trivial]
  obtain ⟨w2, w3, hr, hs, hp⟩ := h w' hw a.eval (fun x u hx => ha.ev hx) ⟨none, op, ty, pos, af, g⟩ rfl
  unfold does
  rw [hr]
  exact ⟨(hC w2 hp).imp (fun h => h.trans (.same hs)) id, next w2 hp w3 hs _ (ha.put0 undef)⟩
theorem NB.vL {Post : Value → World → Prop} (ho : all[i]? = some ⟨some d, op, ty, pos, af, g⟩) (hi : al.contains i = true) (hd : Nat.blt d F.n = true) (hg : gd e all g = some true) (h : DoV F.P e op w Post) (hf : finB .any all.toArray (fun j => al.contains j) i = true)
    (next : ∀ v w2, Post v w2 → NB F S w0 al ((d, v) :: e) all t k w2) : NB F S w0 al e all (.op i t) k w := .v0 ho hi hd hg h (fun _ _ _ => .inr hf) next
theorem NB.sL {Post : World → Prop} (ho : all[i]? = some ⟨none, op, ty, pos, af, g⟩) (hi : al.contains i = true) (hg : gd e all g = some true) (h : DoS F.P e op w Post) (hf : finB .any all.toArray (fun j => al.contains j) i = true)
    (next : ∀ w2, Post w2 → NB F S w0 al e all t k w2) : NB F S w0 al e all (.op i t) k w := .s0 ho hi hg h (fun _ _ => .inr hf) next
theorem N.nil (h : A F e k w) : N F S w0 al e all .nil k w := fun _ => .nil h
theorem N.stop : N F S w0 al e all .stop k w := fun _ => .stop
theorem N.alt (h : N F S w0 al e all t' k w) (h' : N F S w0 al e all t k w) : N F S w0 al e all (.alt i t' t) k w := fun hX => .alt (h hX) (h' hX)
theorem N.p {v : Value} (ho : all[i]? = some ⟨some d, op, ty, pos, af, g⟩) (hi : al.contains i = false) (hd : Nat.blt d F.n = true) (hg : gd e all g = some true) (h : ∀ w', Ext S w0 w' → Ev F.P e op w' v) (next : N F S w0 al ((d, v) :: e) all t k w) :
    N F S w0 al e all (.op i t) k w := fun hX => .p ho hi hd hg (fun w' hw' => h w' (hw'.elim id (fun e => e ▸ hX))) (next hX)
theorem N.skip (ho : all[i]? = some ⟨some d, op, ty, pos, af, g⟩) (hd : Nat.blt d F.n = true) (hg : gd e all g = some false) (next : N F S w0 al ((d, undef) :: e) all t k w) : N F S w0 al e all (.op i t) k w := fun hX => .skip ho hd hg (next hX)
theorem N.v {Post : Value → World → Prop} (ho : all[i]? = some ⟨some d, op, ty, pos, af, g⟩) (hi : al.contains i = true) (hd : Nat.blt d F.n = true) (hg : gd e all g = some true) (h : DoV F.P e op w Post) (hC : ∀ v w2, Post v w2 → Ext S w0 w2)
    (next : ∀ v w2, Post v w2 → N F S w0 al ((d, v) :: e) all t k w2) : N F S w0 al e all (.op i t) k w := fun hX => .v0 ho hi hd hg h (fun v w2 hp => .inl (hC v w2 hp)) (fun v w2 hp => next v w2 hp (hC v w2 hp))
theorem N.s {Post : World → Prop} (ho : all[i]? = some ⟨none, op, ty, pos, af, g⟩) (hi : al.contains i = true) (hg : gd e all g = some true) (h : DoS F.P e op w Post) (hC : ∀ w2, Post w2 → Ext S w0 w2)
    (next : ∀ w2, Post w2 → N F S w0 al e all t k w2) : N F S w0 al e all (.op i t) k w := fun hX => .s0 ho hi hg h (fun w2 hp => .inl (hC w2 hp)) (fun w2 hp => next w2 hp (hC w2 hp))
theorem N.vL {Post : Value → World → Prop} (ho : all[i]? = some ⟨some d, op, ty, pos, af, g⟩) (hi : al.contains i = true) (hd : Nat.blt d F.n = true) (hg : gd e all g = some true) (h : DoV F.P e op w Post) (hf : finB .any all.toArray (fun j => al.contains j) i = true)
    (next : ∀ v w2, Post v w2 → NB F S w0 al ((d, v) :: e) all t k w2) : N F S w0 al e all (.op i t) k w := fun _ => .vL ho hi hd hg h hf next
theorem N.sL {Post : World → Prop} (ho : all[i]? = some ⟨none, op, ty, pos, af, g⟩) (hi : al.contains i = true) (hg : gd e all g = some true) (h : DoS F.P e op w Post) (hf : finB .any all.toArray (fun j => al.contains j) i = true)
    (next : ∀ w2, Post w2 → NB F S w0 al e all t k w2) : N F S w0 al e all (.op i t) k w := fun _ => .sL ho hi hg h hf next
theorem N.call {c : Operand} {f : FuncId} {xs : List Operand} {ats : Array TypeId} {vs first captured : List Value} {Post : Value → World → Prop} (ho : all[i]? = some ⟨some d, .call { callee := .value c, args := xs.toArray, argTypes := ats }, ty, pos, af, g⟩) (hi : al.contains i = true) (hd : Nat.blt d F.n = true) (hg : gd e all g = some true)
    (hf : look e c = some (.func (.func f) first.toArray captured.toArray)) (hx : xs.mapM (look e) = some vs) (hc : Fn F.P f (first ++ vs ++ captured) w Post) (hC : ∀ r w2, Post r w2 → Ext S w0 w2) (next : ∀ r w2, Post r w2 → N F S w0 al ((d, r) :: e) all t k w2) :
    N F S w0 al e all (.op i t) k w := by
  intro hX w' hw a ha
  unfold wpTr mOp
  rw [show all.toArray[i]? = _ by simpa using ho]
  simp only [hi]
  rw [if_pos (gd_wanted ha hg), if_pos trivial]
  unfold does
  rw [run_call_value rfl (ha.ev hf), look_args (fun x u hx => ha.ev hx) xs vs hx, hc.1 w']
  refine (hc.2 w' hw).mono fun en w3 ⟨r, w2, hs, he, hp⟩ => ?_
  subst he
  exact ⟨.inl ((hC r w2 hp).trans (.same hs)), next r w2 hp (hC r w2 hp) w3 hs _ (ha.put hd r)⟩
theorem N.cl {c : Operand} {f : FuncId} {xs : List Operand} {ats : Array TypeId} {vs : List Value} {Post : Value → World → Prop} (ho : all[i]? = some ⟨some d, .call { callee := .value c, args := xs.toArray, argTypes := ats }, ty, pos, af, g⟩) (hi : al.contains i = true) (hd : Nat.blt d F.n = true) (hg : gd e all g = some true)
    (hf : look e c = some (.func (.func f) #[] #[])) (hx : xs.mapM (look e) = some vs) (hc : Fn F.P f vs w Post) (hC : ∀ r w2, Post r w2 → Ext S w0 w2) (next : ∀ r w2, Post r w2 → N F S w0 al ((d, r) :: e) all t k w2) :
    N F S w0 al e all (.op i t) k w := N.call (first := []) (captured := []) ho hi hd hg hf hx (by rw [List.nil_append, List.append_nil]; exact hc) hC next
theorem N.case (n : Nat) {b : Bool} (h : e.get n = some (.bool b)) (h1 : b = true → N F S w0 al ((n, .bool true) :: e) all t k w) (h2 : b = false → N F S w0 al ((n, .bool false) :: e) all t k w) : N F S w0 al e all t k w := by
  have hkeep : ∀ {m : Sz} {a : Act}, Ag m e a → Ag m ((n, .bool b) :: e) a := fun ha => ⟨ha.1, ha.2.1, fun t' v' h' => by
    simp only [Env.get, cond_eq_ite, Nat.beq_eq] at h'
    by_cases ht : n = t'
    · subst ht; simp at h'; subst h'; exact ha.2.2 _ _ h
    · rw [if_neg ht] at h'; exact ha.2.2 _ _ h'⟩
  intro hX w' hw a ha
  cases b
  · exact h2 rfl hX w' hw a (hkeep ha)
  · exact h1 rfl hX w' hw a (hkeep ha)
theorem N.caseD (n : Nat) {p : Prop} [Decidable p] (h : e.get n = some (.bool (decide p))) (h1 : p → N F S w0 al ((n, .bool true) :: e) all t k w) (h2 : ¬ p → N F S w0 al ((n, .bool false) :: e) all t k w) : N F S w0 al e all t k w :=
  N.case n h (fun hb => h1 (of_decide_eq_true hb)) (fun hb => h2 (of_decide_eq_false hb))
end
end Go.Proofs.YthliepcjfnjnoaaGreatDoor
namespace Go.Proofs.YthliepcjfnjnoaaGreatDoor
open Go page tree
def StP (w : World) (b : Nat) (sv : Value) (n : Nat) : Prop := ∃ x1 x2 x3 x4, Blk w b 83 [x1, x2, x3, .slice none 0 0, sv, x4, i64 0, i64 n]
theorem StP.ext0 {w w' : World} {b n : Nat} {sv : Value} (h : StP w b sv n) (hx : Ext (fun _ => False) w w') : StP w' b sv n := by
  obtain ⟨x1, x2, x3, x4, hB⟩ := h
  exact ⟨x1, x2, x3, x4, hB.ext hx (fun x => x)⟩
namespace tree
def newT (es : List Entry) (key : Bs) (seq : Int) : Entry × Bool := if (findE es key seq).2.1 = true then ((findE es key seq).1, true) else (noE, false)
def encV (x : Entry) : List Value := [str x.key, str x.value, i64 x.seq, .bool x.gone]
end tree
theorem rows_fn {w : World} {b n m c : Nat} {a : Option Addr} (h : StP w b (.slice a m c) n) : Fn Tryz.prog 71 [.pointer (some ⟨b, 0, none⟩)] w (fun r w2 => (∃ q, r = .slice (some ⟨q, 0, none⟩) 1 1 ∧ w.heap.size ≤ q ∧ Blk w2 q 81 [.slice a m c]) ∧ Ext (fun _ => False) w w2) := by
  obtain ⟨x1, x2, x3, x4, hB⟩ := h
  refine Fn.enter (fun w => Tryz.call71 _ w) Tryz.func71 rfl ?_
  refine .seq (.region ?_)
  refine .p rfl rfl (.as rfl) ?_
  refine .nil (.code (.seq (.keep [(0, _)] ⟨rfl, trivial⟩ (.region ?_))))
  refine .p rfl rfl (.mv rfl) ?_
  refine .p rfl rfl (.nilCheck rfl) ?_
  refine .p rfl rfl (.fieldAddr rfl rfl rfl rfl) ?_
  refine .p rfl rfl (.load rfl rfl rfl (hB.cell 4)) ?_
  refine .v rfl rfl (.lits rfl rfl (fun _ => by kernel_rfl)) ?_
  rintro _ w10 ⟨rfl, N10⟩
  refine .p rfl rfl (.as rfl) ?_
  refine .nil (.code (.seq (.seq (.keep [(3, _), (0, _)] ⟨rfl, rfl, trivial⟩ (.region ?_)))))
  refine .p rfl rfl (.mv rfl) ?_
  refine .p rfl rfl (.nilCheck rfl) ?_
  refine .p rfl rfl (.fieldAddr rfl rfl rfl rfl) ?_
  refine .p rfl rfl (.load rfl rfl rfl ((hB.ext N10.ext (fun x => x)).cell 3)) ?_
  refine .p rfl rfl (.len rfl rfl) ?_
  refine .p rfl rfl (.mv rfl) ?_
  refine .nil (.code (.block (.keep [(16, _), (15, _), (14, _), (3, _)] ⟨rfl, rfl, rfl, rfl, trivial⟩ ?_)))
  refine .loop (S := Unit) (fun s => [(3, .slice (some ⟨w.heap.size, 0, none⟩) 1 1), (14, .slice none 0 0), (15, i64 0), (16, i64 0)]) (fun s => w10) (fun s => True) (fun s => 0) () ⟨rfl, rfl, rfl, rfl, trivial⟩ rfl trivial ?_
  rintro ⟨⟩ J _ again
  change G _ [(3, .slice (some ⟨w.heap.size, 0, none⟩) 1 1), (14, .slice none 0 0), (15, i64 0), (16, i64 0)] _ _ w10
  refine .seq (.region ?_)
  refine .p rfl rfl (.no (.lt rfl rfl) (by decide)) ?_
  refine .nil (.code (.seq (.condF rfl (.exit rfl (.code (.seq (.keep [(3, _)] ⟨rfl, trivial⟩ (.region ?_))))))))
  refine .p rfl rfl (.mv rfl) ?_
  refine .p rfl rfl (.as rfl) ?_
  refine .nil (.code ?_)
  refine .ret _ rfl ?_
  exact ⟨⟨_, rfl, Nat.le_refl _, N10.blk⟩, N10.ext⟩
theorem newest_fn {w : World} {b n : Nat} {sv : Value} {es : List Entry} {key : Bs} {seq : Int} (h : StP w b sv n) (hE : (Sl tEntry).rep All w sv es) (hk : key.length < Lim) (hq : -9223372036854775808 ≤ seq ∧ seq ≤ 9223372036854775807) : Fn Tryz.prog 39 [.pointer (some ⟨b, 0, none⟩), str key, i64 seq] w (fun r w2 => r = .tuple #[entV (newT es key seq).1, .bool (newT es key seq).2] ∧ Ext (fun _ => False) w w2) := by
  obtain ⟨a, cap, rfl, hcap⟩ := Sl.val hE
  refine Fn.enter (fun w => Tryz.call39 _ w) Tryz.func39 rfl ?_
  refine .seq (.region ?_)
  refine .v rfl rfl (.alloc rfl rfl) ?_
  rintro _ w6 ⟨rfl, N6⟩
  have B6 := N6.blk
  have X6 := N6.ext
  have z6 := N6.size
  refine .p rfl rfl (.as rfl) ?_
  refine .nil (.code (.seq (.seq (.region ?_))))
  refine .p rfl rfl (.mv rfl) ?_
  refine .call (first := []) (captured := []) rfl rfl rfl rfl (rows_fn (h.ext0 X6)) ?_
  rintro _ w14 ⟨⟨q, rfl, hq2, Bq⟩, X14⟩
  have z14 := X14.size
  refine .p rfl rfl (.len rfl rfl) ?_
  refine .p rfl rfl (.mv rfl) ?_
  refine .nil (.code (.block (.keep [(16, _), (15, _), (14, _), (7, _), (6, _), (1, _), (2, _)] ⟨rfl, rfl, rfl, rfl, rfl, rfl, rfl, trivial⟩ ?_)))
  refine .loop (S := Nat × Entry × Bool × World) (fun s => [(1, str key), (2, i64 seq), (6, .pointer (some ⟨w.heap.size, 0, none⟩)), (7, .bool s.2.2.1), (14, .slice (some ⟨q, 0, none⟩) 1 1), (15, i64 1), (16, i64 (s.1 : Nat))]) (fun s => s.2.2.2) (fun s => s.1 ≤ 1 ∧ (s.1 = 0 → s.2.1 = noE ∧ s.2.2.1 = false) ∧ (s.1 = 1 → s.2.1 = (newT es key seq).1 ∧ s.2.2.1 = (newT es key seq).2) ∧ Blk s.2.2.2 w.heap.size 85 (encV s.2.1) ∧ Blk s.2.2.2 q 81 [.slice a es.length cap] ∧ Ext (fun _ => False) w s.2.2.2) (fun s => 1 - s.1) (0, noE, false, w14) ⟨rfl, rfl, rfl, rfl, rfl, rfl, rfl, trivial⟩ rfl ⟨Nat.zero_le _, (fun _ => ⟨rfl, rfl⟩), (fun h => by cases h), B6.ext X14 (fun x => x), Bq, X6.trans X14⟩ ?_
  rintro ⟨i, be, is, wi⟩ J ⟨hi, h0, h1, Bb, Bj, hX⟩ again
  simp only at hi h0 h1 Bb Bj hX
  change G _ [(1, str key), (2, i64 seq), (6, .pointer (some ⟨w.heap.size, 0, none⟩)), (7, .bool is), (14, .slice (some ⟨q, 0, none⟩) 1 1), (15, i64 1), (16, i64 (i : Nat))] _ _ wi
  refine .seq (.region ?_)
  refine .p rfl rfl (.lt rfl rfl) ?_
  refine .nil (.code (.seq ?_))
  refine .condD rfl (fun c17 => ?_) (fun c17 => ?_)
  · obtain rfl : i = 0 := by omega
    obtain ⟨rfl, rfl⟩ := h0 rfl
    refine .skip (.code (.seq (.block (.seq (.keep [(1, _), (2, _), (6, _), (7, _), (14, _), (15, _), (16, _)] ⟨rfl, rfl, rfl, rfl, rfl, rfl, rfl, trivial⟩ (.region ?_))))))
    refine .p rfl rfl (.indexAddr1 rfl rfl rfl rfl (by omega)) ?_
    refine .p rfl rfl (.cast (.load rfl rfl rfl (Bj.cell 0)) rfl) ?_
    refine .p rfl rfl (.as rfl) ?_
    refine .nil (.code (.seq (.keep [(9, _), (1, _), (2, _), (6, _), (7, _), (14, _), (15, _), (16, _)] ⟨rfl, rfl, rfl, rfl, rfl, rfl, rfl, rfl, trivial⟩ (.region ?_))))
    refine .p rfl rfl (.mv rfl) ?_
    refine .p rfl rfl (.mv rfl) ?_
    refine .p rfl rfl (.mv rfl) ?_
    refine .call (first := []) (captured := []) rfl rfl rfl rfl (fFind_fn ((Sl tEntry).ext0 hE hX) hk hq) ?_
    rintro _ w24 ⟨rfl, X24⟩
    have z24 := X24.size
    refine .p rfl rfl (.mv rfl) ?_
    refine .p rfl rfl (.extract rfl rfl) ?_
    refine .p rfl rfl (.extract rfl rfl) ?_
    refine .p rfl rfl (.extract rfl rfl) ?_
    refine .v rfl rfl (.alloc rfl rfl) ?_
    rintro _ wn10 ⟨rfl, N10⟩
    refine .s rfl (.storeAll (n := 4) rfl rfl rfl rfl rfl N10.blk rfl) ?_
    intro w10 P10
    have Y10 := N10.ext.then P10.ext (by rintro k rfl _; exact Nat.le_refl _)
    have zy10 := Y10.size
    have B10 := P10.blk
    clear P10 N10
    refine .p rfl rfl (.as rfl) ?_
    refine .p rfl rfl (.as rfl) ?_
    refine .nil (.code (.seq (.keep [(11, _), (10, _), (1, _), (2, _), (6, _), (7, _), (14, _), (15, _), (16, _)] ⟨rfl, rfl, rfl, rfl, rfl, rfl, rfl, rfl, rfl, trivial⟩ (.region ?_))))
    refine .p rfl rfl (.mv rfl) ?_
    refine .p rfl rfl (.mv rfl) ?_
    refine .case 29 rfl (fun c29 => ?_) (fun c29 => ?_)
    · refine .p rfl rfl (.mv rfl) ?_
      refine .p rfl rfl (.not rfl) ?_
      refine .p rfl rfl (.mv rfl) ?_
      refine .skip rfl rfl ?_
      refine .skip rfl rfl ?_
      refine .skip rfl rfl ?_
      refine .skip rfl rfl ?_
      refine .skip rfl rfl ?_
      refine .p rfl rfl (.pickT rfl rfl) ?_
      refine .p rfl rfl (.pickT rfl rfl) ?_
      refine .nil (.code (.keep [(39, _), (10, _), (1, _), (2, _), (6, _), (7, _), (14, _), (15, _), (16, _)] ⟨rfl, rfl, rfl, rfl, rfl, rfl, rfl, rfl, rfl, trivial⟩ (.condT rfl (.keep [(10, _), (1, _), (2, _), (6, _), (14, _), (15, _), (16, _)] ⟨rfl, rfl, rfl, rfl, rfl, rfl, rfl, trivial⟩ (.region ?_)))))
      refine .p rfl rfl (.loadA (n := 4) rfl rfl rfl rfl rfl B10.cells) ?_
      refine .s rfl (.storeAll (n := 4) rfl rfl rfl rfl rfl ((Bb.ext X24 (fun x => x)).ext Y10 (fun x => x)) rfl) ?_
      intro wz P6
      refine .p rfl rfl (.as rfl) ?_
      refine .nil (.blk (.code (.keep [(7, _), (1, _), (2, _), (6, _), (14, _), (15, _), (16, _)] ⟨rfl, rfl, rfl, rfl, rfl, rfl, rfl, trivial⟩ (.region ?_))))
      refine .p rfl rfl (.add rfl rfl (by omega)) ?_
      refine .p rfl rfl (.mv rfl) ?_
      refine .nil ?_
      exact (again (1, (findE es key seq).1, true, wz) ⟨Nat.le_refl _, (fun h => by cases h), (fun _ => by unfold newT; rw [if_pos c29]; exact ⟨rfl, rfl⟩), P6.blk, ((Bj.ext X24 (fun x => x)).ext Y10 (fun x => x)).ext P6.ext (by show ¬ q = _; omega), (hX.trans (X24.trans Y10)).then P6.ext (by rintro k rfl _; exact Nat.le_refl _)⟩ (by show 1 - 1 < 1 - 0; decide)).of ⟨rfl, rfl, rfl, rfl, rfl, rfl, rfl, trivial⟩
    · refine .skip rfl rfl ?_
      refine .skip rfl rfl ?_
      refine .skip rfl rfl ?_
      refine .skip rfl rfl ?_
      refine .skip rfl rfl ?_
      refine .skip rfl rfl ?_
      refine .skip rfl rfl ?_
      refine .skip rfl rfl ?_
      refine .skip rfl rfl ?_
      refine .p rfl rfl (.pickF rfl rfl) ?_
      refine .nil (.code (.keep [(39, _), (10, _), (1, _), (2, _), (6, _), (7, _), (14, _), (15, _), (16, _)] ⟨rfl, rfl, rfl, rfl, rfl, rfl, rfl, rfl, rfl, trivial⟩ (.condF rfl (.skip (.blk (.code (.keep [(1, _), (2, _), (6, _), (7, _), (14, _), (15, _), (16, _)] ⟨rfl, rfl, rfl, rfl, rfl, rfl, rfl, trivial⟩ (.region ?_))))))))
      refine .p rfl rfl (.add rfl rfl (by omega)) ?_
      refine .p rfl rfl (.mv rfl) ?_
      refine .nil ?_
      exact (again (1, noE, false, w10) ⟨Nat.le_refl _, (fun h => by cases h), (fun _ => by unfold newT; rw [if_neg (by rw [c29]; exact Bool.false_ne_true)]; exact ⟨rfl, rfl⟩), (Bb.ext X24 (fun x => x)).ext Y10 (fun x => x), (Bj.ext X24 (fun x => x)).ext Y10 (fun x => x), hX.trans (X24.trans Y10)⟩ (by show 1 - 1 < 1 - 0; decide)).of ⟨rfl, rfl, rfl, rfl, rfl, rfl, rfl, trivial⟩
  · refine .exit rfl (.code (.seq (.keep [(6, _), (7, _)] ⟨rfl, rfl, trivial⟩ (.region ?_))))
    refine .p rfl rfl (.loadA (n := 4) rfl rfl rfl rfl rfl Bb.cells) ?_
    refine .p rfl rfl (.mv rfl) ?_
    refine .s rfl (.storeAll (n := 4) rfl rfl rfl rfl rfl Bb rfl) ?_
    intro wz P8
    refine .p rfl rfl (.as rfl) ?_
    refine .nil (.code ?_)
    refine .retR (.cell (n := 4) rfl rfl rfl rfl rfl (P8.blk.cells) (.tmp rfl .nil)) ?_
    obtain rfl : i = 1 := by omega
    obtain ⟨rfl, rfl⟩ := h1 rfl
    exact ⟨rfl, hX.then P8.ext (by rintro k rfl _; exact Nat.le_refl _)⟩
end Go.Proofs.YthliepcjfnjnoaaGreatDoor
namespace Go.Proofs.YthliepcjfnjnoaaGreatDoor
open Go
theorem flat_put {n : Nat} : ∀ {us : List Value} (i : Nat) (u : Value), (∀ x ∈ us, x.cells.size = n) → u.cells.size = n → i < us.length → (flat us).take (i * n) ++ u.cells.toList ++ (flat us).drop (i * n + n) = flat (us.set i u)
  | [], i, u, _, _, hi => absurd hi (Nat.not_lt_zero _)
  | x :: us, 0, u, h, hu, _ => by
    have hx : x.cells.toList.length = n := by rw [Array.length_toList, h x (by simp)]
    rw [List.set_cons_zero, flat_cons, flat_cons, Nat.zero_mul, Nat.zero_add, List.take_zero, List.nil_append, List.drop_left' hx]
  | x :: us, i + 1, u, h, hu, hi => by
    have hx : x.cells.toList.length = n := by rw [Array.length_toList, h x (by simp)]
    have ih := flat_put (us := us) i u (fun y hy => h y (by simp [hy])) hu (by simpa using hi)
    rw [List.set_cons_succ, flat_cons, flat_cons, ← ih, Nat.add_mul, Nat.one_mul]
    rw [show i * n + n = x.cells.toList.length + i * n by omega, List.take_length_add_append, show x.cells.toList.length + i * n + n = x.cells.toList.length + (i * n + n) by omega, List.drop_length_add_append, hx]
    simp only [List.append_assoc]
    rw [Nat.add_comm n (i * n)]
theorem O.w {F : Fr} {e : Env} {k : List It} {w : World} {all rest : List Oper} {op : Op} {ty : TypeId} {pos : String} {af : Array Edge} {g : Option (Nat × Bool)} {Post : Value → World → Prop} (hg : gd e all g = some true) (h : DoV F.P e op w Post) (next : ∀ v w2, Post v w2 → O F e all rest k w2) : O F e all (⟨none, op, ty, pos, af, g⟩ :: rest) k w := by
  intro w' hw a ha
  refine wpList_step fun K hK => ?_
  rw [if_pos (gd_wanted ha hg)]
  obtain ⟨v, w2, w3, hr, hs, hp⟩ := h w' hw a.eval (fun x u hx => ha.ev hx) ⟨none, op, ty, pos, af, g⟩ rfl
  unfold Oper.wp
  rw [hr]
  exact hK _ _ (next v w2 hp w3 hs _ (ha.put0 v))
section
variable {P : Program} {e : Env} {w : World} {x y : Operand} {T E : TypeId} {α : Type} {t : Ty α} {Q : Nat → Prop} {ys : List α} {b cap n i : Nat}
theorem DoS.storeOwn {us0 : List Value} {y' : α} {TE : TypeId} (hO : Own t Q E w (.slice (some ⟨b, 0, none⟩) n cap) ys b) (hi : i < n) (hp : look e x = some (.pointer (some ⟨b, i * t.size, none⟩))) (hv : look e y = some (.agg us0.toArray)) (hs : sizeIs P TE t.size) (hn : us0.length = t.size) (hu : us0.all (·.oneCell') = true)
    (hr : t.rep Q w (.agg us0.toArray) y') (hQ : ∀ k, Q k → k < w.heap.size → ¬ k = b) :
    DoS P e (.store TE x y) w (fun w2 => Own t Q E w2 (.slice (some ⟨b, 0, none⟩) n cap) (ys.set i y') b ∧ Ext (· = b) w w2) := by
  obtain ⟨hl, ⟨_, h⟩ | ⟨cap', us, sp, hv', hc, he, hB, hlen⟩⟩ := hO
  · cases h
  · cases hv'
    have hus : us.length = ys.length := he.length
    have hsz : ∀ u ∈ us, u.cells.size = t.size := he.mem (n := t.size) (fun u x h => t.sz h)
    have hfl : (flat us).length = ys.length * t.size := by rw [flat_length hsz, hus]
    have hmul : i * t.size + t.size ≤ ys.length * t.size := by rw [← Nat.succ_mul]; exact Nat.mul_le_mul_right _ hi
    have hcu : (Value.agg us0.toArray).cells.toList = us0 := by simp [Value.cells]
    have hcs : (Value.agg us0.toArray).cells.size = t.size := by rw [← Array.length_toList, hcu, hn]
    have hd := DoS.storeA (P := P) (T := TE) hp hv hs hn hu hB (by rw [List.length_append]; omega)
    intro w' hw ρ hρ o ho
    obtain ⟨w2, w3, h1, h2, hPut⟩ := hd w' hw ρ hρ o ho
    refine ⟨w2, w3, h1, h2, ⟨by rw [List.length_set]; exact hl, .inr ⟨cap, us.set i (.agg us0.toArray), sp, by rw [List.length_set], by rw [List.length_set]; exact hc, ?_, ?_, ?_⟩⟩, hPut.ext⟩
    · have he2 : Each (t.rep Q w2) us ys := he.imp (fun u x h => t.ext h hPut.ext hQ)
      exact Each.set he2 i (t.ext hr hPut.ext hQ)
    · have hblk := hPut.blk
      have hf := flat_put (us := us) i (.agg us0.toArray) hsz hcs (by omega)
      rw [hcu] at hf
      rw [List.take_append_of_le_length (by omega), List.drop_append_of_le_length (by omega), hn, ← List.append_assoc] at hblk
      rw [← hf]
      exact hblk
    · have hsz2 : ∀ u ∈ us.set i (.agg us0.toArray), u.cells.size = t.size := fun u hu => by
        rcases List.mem_or_eq_of_mem_set hu with h | h
        · exact hsz u h
        · rw [h]; exact hcs
      rw [List.length_append, flat_length hsz2, List.length_set] at *
      rw [flat_length hsz] at hlen
      exact hlen
end
end Go.Proofs.YthliepcjfnjnoaaGreatDoor
namespace Go.Proofs.YthliepcjfnjnoaaGreatDoor
open Go page tree
namespace tree
theorem set_app {A R : List Entry} {x y : Entry} {j : Nat} (h : A.length = j) : (A ++ x :: R).set j y = A ++ y :: R := by
  subst h
  rw [List.set_append_right _ _ (Nat.le_refl _), Nat.sub_self]
  rfl
theorem swap_app {A R : List Entry} {x y : Entry} {j : Nat} (h : A.length = j) : ((A ++ y :: x :: R).set (j + 1) y).set j x = A ++ x :: y :: R := by
  have h1 : (A ++ y :: x :: R).set (j + 1) y = A ++ y :: y :: R := by
    have := set_app (A := A ++ [y]) (x := x) (y := y) (R := R) (j := j + 1) (by rw [List.length_append, h]; rfl)
    rw [List.append_assoc, List.append_assoc] at this
    exact this
  rw [h1, set_app h]
theorem less_ntrans {x y z : Entry} (h1 : lessE x y = false) (h2 : lessE y z = false) : lessE x z = false := by
  cases h : lessE x z with
  | false => rfl
  | true =>
    cases h3 : lessE y x with
    | true => rw [less_trans h3 h] at h2; cases h2
    | false =>
      have h4 := alike_eq x y
      rw [h1, h3] at h4
      obtain ⟨h5, h6⟩ := of_decide_eq_true h4
      have h7 : lessE x z = lessE y z := by unfold lessE; rw [h5, h6]
      rw [h7, h2] at h
      cases h
def gtE (p q : Entry) : Prop := lessE q p = false
structure Mid (S R : List Entry) (x : Entry) (A B ys : List Entry) : Prop where
  eq : ys = A ++ x :: (B ++ R)
  ab : A ++ B = S
  lt : ∀ b ∈ B, lessE x b = true
theorem Mid.sorted {S R : List Entry} {x : Entry} {A B ys : List Entry} (h : Mid S R x A B ys) (hs : S.Pairwise gtE) (hl : ∀ a, A.getLast? = some a → lessE x a = false) : (A ++ x :: B).Pairwise gtE := by
  obtain ⟨_, rfl, h3⟩ := h
  obtain ⟨h4, h5, h6⟩ := List.pairwise_append.1 hs
  refine List.pairwise_append.2 ⟨h4, List.pairwise_cons.2 ⟨fun b hb => less_asymm (h3 b hb), h5⟩, fun a ha b hb => ?_⟩
  rcases List.mem_cons.1 hb with rfl | hb
  · cases e : A.getLast? with
    | none => rw [List.getLast?_eq_none_iff.1 e] at ha; cases ha
    | some z =>
      have hz := hl z e
      obtain ⟨A', rfl⟩ := List.getLast?_eq_some_iff.1 e
      rcases List.mem_append.1 ha with ha | ha
      · exact less_ntrans hz ((List.pairwise_append.1 h4).2.2 a ha z (by simp))
      · obtain rfl : a = z := by simpa using ha
        exact hz
  · exact h6 a ha b hb
theorem Mid.start {xi : List Entry} {i : Nat} (h : i < xi.length) : Mid (xi.take i) (xi.drop (i + 1)) xi[i] (xi.take i) [] xi :=
  ⟨by rw [List.nil_append, ← List.drop_eq_getElem_cons h, List.take_append_drop], List.append_nil _, fun _ h => by cases h⟩
theorem Mid.perm {S R : List Entry} {x : Entry} {A B ys : List Entry} (h : Mid S R x A B ys) : ys.Perm (S ++ x :: R) := by
  obtain ⟨rfl, rfl, _⟩ := h
  refine List.perm_middle.trans (.trans ?_ List.perm_middle.symm)
  rw [List.append_assoc]
theorem Mid.all {xi : List Entry} {i : Nat} (h : i < xi.length) {A B ys : List Entry} (hm : Mid (xi.take i) (xi.drop (i + 1)) xi[i] A B ys) : ys.Perm xi := by
  have := hm.perm
  rw [← List.drop_eq_getElem_cons h, List.take_append_drop] at this
  exact this
theorem Mid.take {S R : List Entry} {x : Entry} {A B ys : List Entry} (h : Mid S R x A B ys) : ys.take (S.length + 1) = A ++ x :: B := by
  obtain ⟨rfl, rfl, _⟩ := h
  have e : A ++ x :: (B ++ R) = (A ++ x :: B) ++ R := by simp
  rw [e, List.take_left' (by simp; omega)]
theorem Mid.len {S R : List Entry} {x : Entry} {A B ys : List Entry} (h : Mid S R x A B ys) : ys.length = S.length + 1 + R.length := by
  rw [h.perm.length_eq, List.length_append, List.length_cons]
  omega
theorem Mid.step {S R : List Entry} {x y : Entry} {A B ys : List Entry} {j : Nat} (h : Mid S R x (A ++ [y]) B ys) (hj : A.length = j) (hl : lessE x y = true) : Mid S R x A (y :: B) ((ys.set (j + 1) y).set j x) := by
  obtain ⟨rfl, rfl, h3⟩ := h
  refine ⟨?_, by simp, fun b hb => ?_⟩
  · rw [List.append_assoc]
    exact swap_app hj
  · rcases List.mem_cons.1 hb with rfl | hb
    · exact hl
    · exact h3 b hb
theorem Mid.at' {S R : List Entry} {x y : Entry} {A B ys : List Entry} {j : Nat} (h : Mid S R x (A ++ [y]) B ys) (hj : A.length = j) : ys[j]? = some y ∧ ys[j + 1]? = some x := by
  obtain ⟨rfl, rfl, h3⟩ := h
  subst hj
  constructor
  · simp
  · simp
end tree
theorem readC_fn {w : World} {a b : Entry} {u v : Value} (ha : tEntry.rep All w u a) (hb : tEntry.rep All w v b) : Fn Tryz.prog 69 [u, v] w (fun r w2 => r = i64 (if lessE a b = true then -1 else 1) ∧ Ext (fun _ => False) w w2) := by
  obtain ⟨rfl, a1, a2, a3⟩ := tEntry.val ha
  obtain ⟨rfl, b1, b2, b3⟩ := tEntry.val hb
  refine Fn.enter (fun w => Tryz.call69 _ w) Tryz.func69 rfl ?_
  refine .seq (.region ?_)
  refine .v rfl rfl (.box rfl) ?_
  rintro _ w2 ⟨rfl, N2⟩
  have B2 := N2.blk
  have X2 := N2.ext
  have z2 := N2.size
  refine .v rfl rfl (.box rfl) ?_
  rintro _ w3 ⟨rfl, N3⟩
  have B3 := N3.blk
  have X3 := N3.ext
  have z3 := N3.size
  refine .p rfl rfl (.as rfl) ?_
  refine .nil (.code (.seq (.seq (.keep [(3, _), (2, _)] ⟨rfl, rfl, trivial⟩ (.region ?_)))))
  refine .p rfl rfl (.loadA (n := 4) rfl rfl rfl rfl rfl (B2.ext (S := fun _ => False) (by repeat (first | exact Ext.refl _ | assumption | refine Ext.trans (by assumption) ?_)) (fun x => x)).cells) ?_
  refine .p rfl rfl (.loadA (n := 4) rfl rfl rfl rfl rfl (B3.ext (S := fun _ => False) (by repeat (first | exact Ext.refl _ | assumption | refine Ext.trans (by assumption) ?_)) (fun x => x)).cells) ?_
  refine .call (first := []) (captured := []) rfl rfl rfl rfl (Less_fn (a := a) (b := b) (tEntry.mk a1 a2 a3) (tEntry.mk b1 b2 b3)) ?_
  rintro _ w7 ⟨rfl, X7⟩
  refine .nil (.code (.keep [(7, _)] ⟨rfl, trivial⟩ ?_))
  refine .cond rfl (fun c7 => ?_) (fun c7 => ?_)
  · refine .seq (.keep [] trivial (.region ?_))
    refine .p rfl rfl (.as rfl) ?_
    refine .nil (.code ?_)
    refine .ret _ rfl ?_
    exact ⟨by rw [if_pos c7]; rfl, (by repeat (first | exact Ext.refl _ | assumption | refine Ext.trans (by assumption) ?_))⟩
  · refine .skip (.code (.seq (.keep [] trivial (.region ?_))))
    refine .p rfl rfl (.as rfl) ?_
    refine .nil (.code ?_)
    refine .ret _ rfl ?_
    exact ⟨by rw [if_neg (by rw [c7]; exact Bool.false_ne_true)]; rfl, (by repeat (first | exact Ext.refl _ | assumption | refine Ext.trans (by assumption) ?_))⟩
theorem insSort_fn {w : World} {b n cap : Nat} {xs : List Entry} {Q : Nat → Prop} (hO : Own tEntry Q 85 w (.slice (some ⟨b, 0, none⟩) n cap) xs b) (hn : n = xs.length) (hQ : ∀ k, Q k → ¬ k = b) (h1 : 1 ≤ n) (hl : n ≤ 12) : Fn Tryz.prog 156 [.slice (some ⟨b, 0, none⟩) n cap, i64 0, i64 n, .func (.func 69) #[] #[]] w (fun r w2 => r = .tuple #[] ∧ (∃ ys, ys.Perm xs ∧ ys.Pairwise gtE ∧ Own tEntry Q 85 w2 (.slice (some ⟨b, 0, none⟩) n cap) ys b) ∧ Ext (· = b) w w2) := by
  refine Fn.enter (fun w => Tryz.call156 _ w) Tryz.func156 rfl ?_
  refine .seq (.region ?_)
  refine .p rfl rfl (.mv rfl) ?_
  refine .p rfl rfl (.add rfl rfl (by omega)) ?_
  refine .p rfl rfl (.as rfl) ?_
  refine .nil (.code (.block (.keep [(8, _), (0, _), (1, _), (2, _), (3, _)] ⟨rfl, rfl, rfl, rfl, rfl, trivial⟩ ?_)))
  refine .loop (S := Nat × List Entry × World) (fun s => [(0, .slice (some ⟨b, 0, none⟩) n cap), (1, i64 0), (2, i64 n), (3, .func (.func 69) #[] #[]), (8, i64 (s.1 : Nat))]) (fun s => s.2.2) (fun s => 1 ≤ s.1 ∧ s.1 ≤ n ∧ s.2.1.Perm xs ∧ (s.2.1.take s.1).Pairwise gtE ∧ Own tEntry Q 85 s.2.2 (.slice (some ⟨b, 0, none⟩) n cap) s.2.1 b ∧ Ext (· = b) w s.2.2) (fun s => n - s.1) (1, xs, w) ⟨rfl, rfl, rfl, rfl, rfl, trivial⟩ rfl ⟨Nat.le_refl _, h1, .refl _, (by cases xs with | nil => exact .nil | cons a l => exact List.pairwise_singleton _ _), hO, .refl _⟩ ?_
  rintro ⟨i, xi, wi⟩ J ⟨hi1, hi, hp, hs, hOi, hX⟩ again
  simp only at hi1 hi hp hs hOi hX
  change G _ [(0, .slice (some ⟨b, 0, none⟩) n cap), (1, i64 0), (2, i64 n), (3, .func (.func 69) #[] #[]), (8, i64 (i : Nat))] _ _ wi
  refine .seq (.seq (.region ?_))
  refine .p rfl rfl (.mv rfl) ?_
  refine .p rfl rfl (.mv rfl) ?_
  refine .p rfl rfl (.lt rfl rfl) ?_
  refine .nil (.code (.keep [(14, _), (0, _), (1, _), (2, _), (3, _), (8, _)] ⟨rfl, rfl, rfl, rfl, rfl, rfl, trivial⟩ ?_))
  refine .condD rfl (fun c14 => ?_) (fun c14 => ?_)
  · have hil : i < xi.length := by rw [hp.length_eq]; omega
    have hti : (xi.take i).length = i := by rw [List.length_take]; omega
    refine .skip (.code (.seq (.block (.seq (.keep [(0, _), (1, _), (2, _), (3, _), (8, _)] ⟨rfl, rfl, rfl, rfl, rfl, trivial⟩ (.region ?_))))))
    refine .p rfl rfl (.mv rfl) ?_
    refine .p rfl rfl (.as rfl) ?_
    refine .nil (.code (.block (.keep [(9, _), (0, _), (1, _), (2, _), (3, _), (8, _)] ⟨rfl, rfl, rfl, rfl, rfl, rfl, trivial⟩ ?_)))
    refine .loop (S := Nat × List Entry × World) (fun s => [(0, .slice (some ⟨b, 0, none⟩) n cap), (1, i64 0), (2, i64 n), (3, .func (.func 69) #[] #[]), (8, i64 (i : Nat)), (9, i64 (s.1 : Nat))]) (fun s => s.2.2) (fun s => s.1 ≤ i ∧ (∃ A B, A.length = s.1 ∧ Mid (xi.take i) (xi.drop (i + 1)) xi[i] A B s.2.1) ∧ Own tEntry Q 85 s.2.2 (.slice (some ⟨b, 0, none⟩) n cap) s.2.1 b ∧ Ext (· = b) w s.2.2) (fun s => s.1) (i, xi, wi) ⟨rfl, rfl, rfl, rfl, rfl, rfl, trivial⟩ rfl ⟨Nat.le_refl _, ⟨_, _, hti, Mid.start hil⟩, hOi, hX⟩ ?_
    rintro ⟨j, ys, wj⟩ J2 ⟨hji, ⟨A, B, hAl, hM⟩, hOj, hX2⟩ again2
    simp only at hji hAl hM hOj hX2
    have hyl : ys.length = n := by rw [hM.len, hti, List.length_drop, hp.length_eq]; have := hp.length_eq; omega
    change G _ [(0, .slice (some ⟨b, 0, none⟩) n cap), (1, i64 0), (2, i64 n), (3, .func (.func 69) #[] #[]), (8, i64 (i : Nat)), (9, i64 (j : Nat))] _ _ wj
    refine .seq (.seq (.mix (fun _ => False) [14] (by kernel_rfl) (by kernel_rfl) (by kernel_rfl) ?_))
    refine .p rfl rfl rfl (fun wx hx => .mv rfl) ?_
    refine .p rfl rfl rfl (fun wx hx => .mv rfl) ?_
    refine .p rfl rfl rfl (fun wx hx => .gt rfl rfl) ?_
    refine .p rfl rfl rfl (fun wx hx => .mv rfl) ?_
    refine .caseD 21 rfl (fun c21 => ?_) (fun c21 => ?_)
    · obtain ⟨j, rfl⟩ : ∃ k, j = k + 1 := ⟨j - 1, by omega⟩
      have hne : A ≠ [] := fun e => by rw [e] at hAl; cases hAl
      obtain ⟨A', y, rfl⟩ : ∃ A' y, A = A' ++ [y] := ⟨A.dropLast, A.getLast hne, (List.dropLast_concat_getLast hne).symm⟩
      have hA2 : A'.length = j := by rw [List.length_append] at hAl; exact Nat.succ.inj hAl
      obtain ⟨ey, ex⟩ := hM.at' hA2
      have ej : ((j + 1 : Nat) : Int).toNat = j + 1 := Int.toNat_natCast _
      have ej2 : (((j + 1 : Nat) : Int) - 1).toNat = j := by omega
      have hR := Own.rep hOj (Q' := All) trivial (fun _ _ _ => trivial)
      obtain ⟨bx, ox, qx, ue, e, _, hcx, hrx⟩ := Sl.at hR ex
      cases e
      obtain ⟨rfl, x1, x2, x3⟩ := tEntry.val hrx
      obtain ⟨by', oy, qy, ue2, e2, _, hcy, hry⟩ := Sl.at hR ey
      cases e2
      obtain ⟨rfl, y1, y2, y3⟩ := tEntry.val hry
      refine .p rfl rfl rfl (fun wx hx => .mv rfl) ?_
      refine .p rfl rfl rfl (fun wx hx => .mv rfl) ?_
      refine .p rfl rfl rfl (fun wx hx => .mv rfl) ?_
      refine .p rfl rfl rfl (fun wx hx => .cast (.indexAddr (s := 4) rfl rfl rfl rfl (by omega)) (show _ = Value.pointer (some ⟨b, 0 + (j + 1) * 4, none⟩) by rw [ej])) ?_
      refine .p rfl rfl rfl (fun wx hx => .loadA (n := 4) rfl rfl rfl rfl rfl (hcx.ext (S := fun _ => False) hx (fun x => x))) ?_
      refine .p rfl rfl rfl (fun wx hx => .mv rfl) ?_
      refine .p rfl rfl rfl (fun wx hx => .mv rfl) ?_
      refine .p rfl rfl rfl (fun wx hx => .sub rfl rfl (by omega)) ?_
      refine .p rfl rfl rfl (fun wx hx => .cast (.indexAddr (s := 4) rfl rfl rfl rfl (by omega)) (show _ = Value.pointer (some ⟨b, 0 + j * 4, none⟩) by rw [ej2])) ?_
      refine .p rfl rfl rfl (fun wx hx => .loadA (n := 4) rfl rfl rfl rfl rfl (hcy.ext (S := fun _ => False) hx (fun x => x))) ?_
      refine .call (first := []) (captured := []) rfl rfl rfl rfl rfl (readC_fn (a := xi[i]) (b := y) (tEntry.mk x1 x2 x3) (tEntry.mk y1 y2 y3)) (by rintro _ _ ⟨_, hx⟩; exact hx) ?_
      rintro _ w32 ⟨rfl, X32⟩
      refine .p rfl rfl rfl (fun wx hx => .lt rfl rfl) ?_
      refine .p rfl rfl rfl (fun wx hx => .pickT rfl rfl) ?_
      refine .nil (.code (.keep [(34, _), (0, _), (1, _), (2, _), (3, _), (8, _), (9, _)] ⟨rfl, rfl, rfl, rfl, rfl, rfl, rfl, trivial⟩ ?_))
      refine .condD rfl (fun c34 => ?_) (fun c34 => ?_)
      · refine .skip (.code (.seq (.block (.keep [(0, _), (1, _), (2, _), (3, _), (8, _), (9, _)] ⟨rfl, rfl, rfl, rfl, rfl, rfl, trivial⟩ ?_))))
        refine .tree (fun k => k = b) [9, 13, 15, 17] (.op 0 (.op 1 (.op 2 (.op 3 (.op 4 (.op 5 (.op 6 (.op 7 (.op 8 (.op 10 (.op 11 (.op 12 (.alt 9 (.op 9 (.alt 13 (.op 13 (.op 14 (.alt 15 (.op 15 (.op 16 (.alt 17 (.op 17 (.nil)) (.stop)))) (.stop)))) (.stop))) (.alt 13 (.op 13 (.alt 9 (.op 9 (.op 14 (.alt 15 (.op 15 (.op 16 (.alt 17 (.op 17 (.nil)) (.stop)))) (.stop)))) (.stop))) (.stop))))))))))))))) (by kernel_rfl) (by kernel_rfl) (by kernel_rfl) ?_
        refine .p rfl rfl rfl rfl (fun wx hx => .mv rfl) ?_
        refine .p rfl rfl rfl rfl (fun wx hx => .mv rfl) ?_
        refine .p rfl rfl rfl rfl (fun wx hx => .mv rfl) ?_
        refine .p rfl rfl rfl rfl (fun wx hx => .mv rfl) ?_
        refine .p rfl rfl rfl rfl (fun wx hx => .sub rfl rfl (by omega)) ?_
        refine .p rfl rfl rfl rfl (fun wx hx => .mv rfl) ?_
        refine .p rfl rfl rfl rfl (fun wx hx => .mv rfl) ?_
        refine .p rfl rfl rfl rfl (fun wx hx => .sub rfl rfl (by omega)) ?_
        refine .p rfl rfl rfl rfl (fun wx hx => .cast (.indexAddr (s := 4) rfl rfl rfl rfl (by omega)) (show _ = Value.pointer (some ⟨b, 0 + j * 4, none⟩) by rw [ej2])) ?_
        refine .p rfl rfl rfl rfl (fun wx hx => .mv rfl) ?_
        refine .p rfl rfl rfl rfl (fun wx hx => .mv rfl) ?_
        refine .p rfl rfl rfl rfl (fun wx hx => .cast (.indexAddr (s := 4) rfl rfl rfl rfl (by omega)) (show _ = Value.pointer (some ⟨b, 0 + (j + 1) * 4, none⟩) by rw [ej])) ?_
        refine .alt ?_ ?_
        · refine .v rfl rfl rfl rfl (.ofEv (.loadA (n := 4) rfl rfl rfl rfl rfl (hcy.ext X32 (fun x => x)))) (by rintro _ _ ⟨rfl, rfl⟩; exact (Ext.refl _)) ?_
          rintro _ wz ⟨rfl, hz⟩
          subst wz
          refine .alt ?_ ?_
          · refine .v rfl rfl rfl rfl (.ofEv (.loadA (n := 4) rfl rfl rfl rfl rfl (hcx.ext X32 (fun x => x)))) (by rintro _ _ ⟨rfl, rfl⟩; exact (Ext.refl _)) ?_
            rintro _ wz ⟨rfl, hz⟩
            subst wz
            refine .p rfl rfl rfl rfl (fun wx hx => .cast (.indexAddr (s := 4) rfl rfl rfl rfl (by omega)) (show _ = Value.pointer (some ⟨b, (j + 1) * 4, none⟩) by rw [ej, Nat.zero_add])) ?_
            refine .alt ?_ ?_
            · refine .s rfl rfl rfl (.storeOwn (i := j + 1) (y' := y) (hOj.ext0 X32) (by omega) rfl rfl rfl rfl rfl (tEntry.mk y1 y2 y3) (fun k hk _ => hQ k hk)) (by rintro _ ⟨_, hx⟩; exact (Ext.refl _).trans hx) ?_
              rintro w15 ⟨O15, X15⟩
              have hXs15 : Ext (fun k => k = b) _ _ := (Ext.refl _).trans (X15)
              refine .p rfl rfl rfl rfl (fun wx hx => .cast (.indexAddr (s := 4) rfl rfl rfl rfl (by omega)) (show _ = Value.pointer (some ⟨b, j * 4, none⟩) by rw [ej2, Nat.zero_add])) ?_
              refine .alt ?_ ?_
              · refine .s rfl rfl rfl (.storeOwn (i := j) (y' := xi[i]) O15 (by omega) rfl rfl rfl rfl rfl (tEntry.mk x1 x2 x3) (fun k hk _ => hQ k hk)) (by rintro _ ⟨_, hx⟩; exact hXs15.trans hx) ?_
                rintro w17 ⟨O17, X17⟩
                have hXs17 : Ext (fun k => k = b) _ _ := hXs15.trans (X17)
                refine .nil (.blk (.code (.keep [(0, _), (1, _), (2, _), (3, _), (8, _), (9, _)] ⟨rfl, rfl, rfl, rfl, rfl, rfl, trivial⟩ (.region ?_))))
                refine .p rfl rfl (.mv rfl) ?_
                refine .p rfl rfl (.cast (.sub rfl rfl (by omega)) (show i64 (((j + 1 : Nat) : Int) - 1) = i64 (j : Nat) by congr 1; omega)) ?_
                refine .p rfl rfl (.as rfl) ?_
                refine .nil ?_
                exact (again2 (j, _, w17) ⟨by show j ≤ i; omega, ⟨A', y :: B, hA2, hM.step hA2 (by have c33 : (if lessE xi[i] y = true then (-1 : Int) else 1) < 0 := c34; cases hh : lessE xi[i] y with | true => rfl | false => rw [hh] at c33; exact absurd c33 (by decide))⟩, O17, hX2.trans ((X32.mono (fun _ _ h => h.elim)).trans (X15.trans X17))⟩ (by show j < j + 1; omega)).of ⟨rfl, rfl, rfl, rfl, rfl, rfl, trivial⟩
              exact .stop
            exact .stop
          exact .stop
        refine .alt ?_ ?_
        · refine .v rfl rfl rfl rfl (.ofEv (.loadA (n := 4) rfl rfl rfl rfl rfl (hcx.ext X32 (fun x => x)))) (by rintro _ _ ⟨rfl, rfl⟩; exact (Ext.refl _)) ?_
          rintro _ wz ⟨rfl, hz⟩
          subst wz
          refine .alt ?_ ?_
          · refine .v rfl rfl rfl rfl (.ofEv (.loadA (n := 4) rfl rfl rfl rfl rfl (hcy.ext X32 (fun x => x)))) (by rintro _ _ ⟨rfl, rfl⟩; exact (Ext.refl _)) ?_
            rintro _ wz ⟨rfl, hz⟩
            subst wz
            refine .p rfl rfl rfl rfl (fun wx hx => .cast (.indexAddr (s := 4) rfl rfl rfl rfl (by omega)) (show _ = Value.pointer (some ⟨b, (j + 1) * 4, none⟩) by rw [ej, Nat.zero_add])) ?_
            refine .alt ?_ ?_
            · refine .s rfl rfl rfl (.storeOwn (i := j + 1) (y' := y) (hOj.ext0 X32) (by omega) rfl rfl rfl rfl rfl (tEntry.mk y1 y2 y3) (fun k hk _ => hQ k hk)) (by rintro _ ⟨_, hx⟩; exact (Ext.refl _).trans hx) ?_
              rintro w15 ⟨O15, X15⟩
              have hXs15 : Ext (fun k => k = b) _ _ := (Ext.refl _).trans (X15)
              refine .p rfl rfl rfl rfl (fun wx hx => .cast (.indexAddr (s := 4) rfl rfl rfl rfl (by omega)) (show _ = Value.pointer (some ⟨b, j * 4, none⟩) by rw [ej2, Nat.zero_add])) ?_
              refine .alt ?_ ?_
              · refine .s rfl rfl rfl (.storeOwn (i := j) (y' := xi[i]) O15 (by omega) rfl rfl rfl rfl rfl (tEntry.mk x1 x2 x3) (fun k hk _ => hQ k hk)) (by rintro _ ⟨_, hx⟩; exact hXs15.trans hx) ?_
                rintro w17 ⟨O17, X17⟩
                have hXs17 : Ext (fun k => k = b) _ _ := hXs15.trans (X17)
                refine .nil (.blk (.code (.keep [(0, _), (1, _), (2, _), (3, _), (8, _), (9, _)] ⟨rfl, rfl, rfl, rfl, rfl, rfl, trivial⟩ (.region ?_))))
                refine .p rfl rfl (.mv rfl) ?_
                refine .p rfl rfl (.cast (.sub rfl rfl (by omega)) (show i64 (((j + 1 : Nat) : Int) - 1) = i64 (j : Nat) by congr 1; omega)) ?_
                refine .p rfl rfl (.as rfl) ?_
                refine .nil ?_
                exact (again2 (j, _, w17) ⟨by show j ≤ i; omega, ⟨A', y :: B, hA2, hM.step hA2 (by have c33 : (if lessE xi[i] y = true then (-1 : Int) else 1) < 0 := c34; cases hh : lessE xi[i] y with | true => rfl | false => rw [hh] at c33; exact absurd c33 (by decide))⟩, O17, hX2.trans ((X32.mono (fun _ _ h => h.elim)).trans (X15.trans X17))⟩ (by show j < j + 1; omega)).of ⟨rfl, rfl, rfl, rfl, rfl, rfl, trivial⟩
              exact .stop
            exact .stop
          exact .stop
        exact .stop
      · refine .exit rfl (.blk (.code (.keep [(0, _), (1, _), (2, _), (3, _), (8, _)] ⟨rfl, rfl, rfl, rfl, rfl, trivial⟩ (.region ?_))))
        refine .p rfl rfl (.mv rfl) ?_
        refine .p rfl rfl (.add rfl rfl (by omega)) ?_
        refine .p rfl rfl (.as rfl) ?_
        refine .nil ?_
        exact (again (i + 1, ys, w32) ⟨by show 1 ≤ i + 1; omega, by show i + 1 ≤ _; omega, (hM.all hil).trans hp, by show (ys.take (i + 1)).Pairwise gtE; have ht := hM.take; rw [hti] at ht; rw [ht]; exact hM.sorted hs (fun a ha => by rw [List.getLast?_concat] at ha; cases ha; cases hh : lessE xi[i] y with | false => rfl | true => exact absurd (show (if lessE xi[i] y = true then (-1 : Int) else 1) < 0 by rw [if_pos hh]; decide) c34), hOj.ext0 X32, hX2.trans (X32.mono (fun _ _ h => h.elim))⟩ (by show _ - (i + 1) < _ - i; omega)).of ⟨rfl, rfl, rfl, rfl, rfl, trivial⟩
    · refine .skip rfl rfl ?_
      refine .skip rfl rfl ?_
      refine .skip rfl rfl ?_
      refine .skip rfl rfl ?_
      refine .skip rfl rfl ?_
      refine .skip rfl rfl ?_
      refine .skip rfl rfl ?_
      refine .skip rfl rfl ?_
      refine .skip rfl rfl ?_
      refine .skip rfl rfl ?_
      refine .skip rfl rfl ?_
      refine .skip rfl rfl ?_
      refine .p rfl rfl rfl (fun wx hx => .pickF rfl rfl) ?_
      refine .nil (.code (.keep [(34, _), (0, _), (1, _), (2, _), (3, _), (8, _), (9, _)] ⟨rfl, rfl, rfl, rfl, rfl, rfl, rfl, trivial⟩ (.condF rfl (.exit rfl (.blk (.code (.keep [(0, _), (1, _), (2, _), (3, _), (8, _)] ⟨rfl, rfl, rfl, rfl, rfl, trivial⟩ (.region ?_))))))))
      refine .p rfl rfl (.mv rfl) ?_
      refine .p rfl rfl (.add rfl rfl (by omega)) ?_
      refine .p rfl rfl (.as rfl) ?_
      refine .nil ?_
      obtain rfl : j = 0 := by omega
      obtain rfl : A = [] := List.length_eq_zero_iff.1 hAl
      exact (again (i + 1, ys, wj) ⟨by show 1 ≤ i + 1; omega, by show i + 1 ≤ _; omega, (hM.all hil).trans hp, by show (ys.take (i + 1)).Pairwise gtE; have ht := hM.take; rw [hti] at ht; rw [ht]; exact hM.sorted hs (fun a ha => by cases ha), hOj, hX2⟩ (by show _ - (i + 1) < _ - i; omega)).of ⟨rfl, rfl, rfl, rfl, rfl, trivial⟩
  · refine .exit rfl ?_
    refine .fin _ rfl ?_
    obtain rfl : i = n := by omega
    exact ⟨rfl, ⟨xi, hp, by rw [List.take_of_length_le (by rw [hp.length_eq]; omega)] at hs; exact hs, hOi⟩, hX⟩
theorem insSort0_fn {w : World} {a : Option Addr} {cap : Nat} : Fn Tryz.prog 156 [.slice a 0 cap, i64 0, i64 0, .func (.func 69) #[] #[]] w (fun r w2 => r = .tuple #[] ∧ Ext (fun _ => False) w w2) := by
  refine Fn.enter (fun w => Tryz.call156 _ w) Tryz.func156 rfl ?_
  refine .seq (.region ?_)
  refine .p rfl rfl (.mv rfl) ?_
  refine .p rfl rfl (.add rfl rfl (by omega)) ?_
  refine .p rfl rfl (.as rfl) ?_
  refine .nil (.code (.block (.keep [(8, _), (0, _), (1, _), (2, _), (3, _)] ⟨rfl, rfl, rfl, rfl, rfl, trivial⟩ ?_)))
  refine .loop (S := Unit) (fun s => [(0, .slice a 0 cap), (1, i64 0), (2, i64 0), (3, .func (.func 69) #[] #[]), (8, i64 1)]) (fun s => w) (fun s => True) (fun s => 0) () ⟨rfl, rfl, rfl, rfl, rfl, trivial⟩ rfl trivial ?_
  rintro ⟨⟩ J _ again
  change G _ [(0, .slice a 0 cap), (1, i64 0), (2, i64 0), (3, .func (.func 69) #[] #[]), (8, i64 1)] _ _ w
  refine .seq (.seq (.region ?_))
  refine .p rfl rfl (.mv rfl) ?_
  refine .p rfl rfl (.mv rfl) ?_
  refine .p rfl rfl (.no (.lt rfl rfl) (by decide)) ?_
  refine .nil (.code (.keep [(14, _), (0, _), (1, _), (2, _), (3, _), (8, _)] ⟨rfl, rfl, rfl, rfl, rfl, rfl, trivial⟩ (.condF rfl (.exit rfl ?_))))
  refine .fin _ rfl ?_
  exact ⟨rfl, .refl _⟩
end Go.Proofs.YthliepcjfnjnoaaGreatDoor
