import Derived.Test.YtpfehnopghffjaaGreatDoorD02
import Derived.Test.YtpfehnopghffjaaGreatDoorProg
import Derived.Defers
import Derived.RangeFuncRecord
import Derived.RangeFuncSeq
import Derived.RangeFuncCalls
import Derived.TacticsIn
set_option linter.unusedVariables false
set_option linter.unusedSimpArgs false
set_option maxRecDepth 20000
namespace Go.Proofs.YtpfehnopghffjaaGreatDoor
open Go
section
variable {P : Program} {ops : Array Oper} {md : Region.Mode} {C : World → Prop} {act : Nat → Bool}
def okG (act : Nat → Bool) (o : Option Nat) (j : Nat) : Prop := act j = true → o = none ∨ o = some j
def nx (act : Nat → Bool) (o : Option Nat) (j : Nat) : Option Nat := if act j then none else o
theorem nx_comm (o : Option Nat) (i j : Nat) : nx act (nx act o i) j = nx act (nx act o j) i := by
  unfold nx
  cases act i <;> cases act j <;> rfl
def wpAnyG (P : Program) (md : Region.Mode) (ops : Array Oper) (C : World → Prop) (act : Nat → Bool) (Q : Act → World → Prop) : Nat → Option Nat → Array Bool → Act → World → Prop
  | 0, _, listed, a, w => Region.ready md ops listed = [] ∧ Q a w
  | fuel + 1, o, listed, a, w =>
    (Region.ready md ops listed = [] → Q a w) ∧
    ∀ i ∈ Region.ready md ops listed, okG act o i → mOp P md ops C act i (wpAnyG P md ops C act Q fuel (nx act o i) (listed.setIfInBounds i true)) a w
theorem wpAnyM_of_G {Q : Act → World → Prop} : ∀ (fuel : Nat) (listed : Array Bool) (a : Act) (w : World), wpAnyG P md ops C act Q fuel none listed a w → wpAnyM P md ops C act Q fuel listed a w
  | 0, _, _, _, h => h
  | fuel + 1, listed, a, w, h => by
    refine ⟨h.1, fun i hi => mOp_mono (fun a' w' h' => wpAnyM_of_G fuel _ _ _ ?_) (h.2 i hi (fun _ => .inl rfl))⟩
    have : nx act none i = none := by unfold nx; split <;> rfl
    rwa [this] at h'
theorem mG_first {Q : Act → World → Prop} {i : Nat} {oi : Oper} (hi : ops[i]? = some oi) (hsel : ∀ (j : Nat) (o : Oper) cs b, ops[j]? = some o → o.op ≠ .select cs b) 
    :
    ∀ (fuel : Nat) (o : Option Nat) (listed : Array Bool) (a : Act) (w : World), (act i = true → o = some i) → C w ∨ Lin md ops act listed → Closed md ops listed →
      (∀ j oj, ops[j]? = some oj → j ≠ i → listed.getD j true = false → (∀ e ∈ oj.after, Region.binds md e = true → e.on ≠ i) → oi.apart ops oj = true) →
      i ∈ Region.ready md ops listed →
      mOp P md ops C act i (wpAnyG P md ops C act Q fuel (nx act o i) (listed.setIfInBounds i true)) a w → wpAnyG P md ops C act Q (fuel + 1) o listed a w := by
  intro fuel
  induction fuel with
  | zero =>
    intro o listed a w hact hCw hcl _ hr H
    refine ⟨fun h => (by rw [h] at hr; cases hr), fun j hj hok => ?_⟩
    by_cases hji : j = i
    · subst hji; exact H
    · exfalso
      have hex : ∃ a' w', wpAnyG P md ops C act Q 0 (nx act o i) (listed.setIfInBounds i true) a' w' := by
        unfold mOp at H
        simp only [hi] at H
        split at H
        · split at H
          · obtain ⟨v, w', _, h⟩ := H.some; exact ⟨_, _, h⟩
          · obtain ⟨v, _, h⟩ := H; exact ⟨_, _, h⟩
        · exact ⟨_, _, H⟩
      obtain ⟨a', w', h⟩ := hex
      have := ready_mono hj hji
      rw [h.1] at this
      cases this
  | succ fuel ih =>
    intro o listed a w hact hCw hcl hfree hr H
    refine ⟨fun h => (by rw [h] at hr; cases hr), fun j hj hok => ?_⟩
    by_cases hji : j = i
    · subst hji; exact H
    · have hor : C w ∨ freeB ops act j = true ∨ freeB ops act i = true := hCw.imp id (lin_two hcl hr hj hji)
      have hnfj : finB md ops act j = true → freeB ops act i = true := fin_two hcl hj hr (Ne.symm hji)
      have hij : act i = true → act j = false := fun hai => by
        cases haj : act j with
        | false => rfl
        | true =>
          exfalso
          rcases hok haj with h | h <;> rw [hact hai] at h
          · cases h
          · exact hji (Option.some.inj h).symm
      have hact' : act i = true → nx act o j = some i := fun hai => by
        unfold nx
        rw [hij hai]
        exact hact hai
      have hok' : okG act (nx act o i) j := fun haj => by
        have : act i = false := by
          cases hai : act i with
          | false => rfl
          | true => have := hij hai; rw [haj] at this; cases this
        unfold nx
        rw [this]
        exact hok haj
      obtain ⟨hjun, oj, hoj, hall⟩ := mem_ready.1 hj
      have hiun : listed.getD i false = false := by
        have h0 := (mem_ready.1 hr).1
        rcases Nat.lt_or_ge i listed.size with h' | h'
        · simp [h'] at h0 ⊢; exact h0
        · simp [Array.getElem?_eq_none h'] at h0
      have hnot : ∀ e ∈ oj.after, Region.binds md e = true → e.on ≠ i := fun e he hb heq => by
        have h1 := hall e he hb
        rw [heq, hiun] at h1; cases h1
      have hap := hfree j oj hoj hji hjun hnot
      obtain ⟨h1, h2, h3⟩ := Oper.apart_spec hap
      have hsi := fun cs b => hsel i oi cs b hi
      have hsj := fun cs b => hsel j oj cs b hoj
      have hready' := ready_mono hr (Ne.symm hji)
      have hcl' := hcl.set hj
      have hfree' : ∀ k ok, ops[k]? = some ok → k ≠ i → (listed.setIfInBounds j true).getD k true = false →
          (∀ e ∈ ok.after, Region.binds md e = true → e.on ≠ i) → oi.apart ops ok = true := fun k ok hk hki hun hno => by
        refine hfree k ok hk hki ?_ hno
        by_cases hjk : j = k
        · subst hjk; exact hjun
        · rw [getD_set_ne true hjk] at hun; exact hun
      have hjr := ready_mono hj hji
      have hcomm : (listed.setIfInBounds j true).setIfInBounds i true = (listed.setIfInBounds i true).setIfInBounds j true := Array.setIfInBounds_comm _ _ hji
      have behind : ∀ (u : Value) (w' : World), C w' ∨ Lin md ops act (listed.setIfInBounds j true) → (mOp P md ops C act i (fun a' w'' => wpAnyG P md ops C act Q fuel (nx act (nx act o i) j) ((listed.setIfInBounds i true).setIfInBounds j true) a' w'') (a.put oj.dst u) w') →
          wpAnyG P md ops C act Q (fuel + 1) (nx act o j) (listed.setIfInBounds j true) (a.put oj.dst u) w' := fun u w' hC' hm => by
        refine ih _ _ _ _ hact' hC' hcl' hfree' hready' ?_
        rw [hcomm, ← nx_comm]
        exact hm
      have wi : ∀ u, Region.wanted oi (yielded ops (a.put oj.dst u).tmps) = Region.wanted oi (yielded ops a.tmps) := fun u => wanted_put oi a oj.dst u h3
      have ei : ∀ u, execOp (a.put oj.dst u).eval oi = execOp a.eval oi := fun u => execOp_put oi hsi a oj.dst u h3
      have wj : ∀ v, Region.wanted oj (yielded ops (a.put oi.dst v).tmps) = Region.wanted oj (yielded ops a.tmps) := fun v => wanted_put oj a oi.dst v h1
      have ej : ∀ v, execOp (a.put oi.dst v).eval oj = execOp a.eval oj := fun v => execOp_put oj hsj a oi.dst v h1
      have pc : ∀ v u, (a.put oi.dst v).put oj.dst u = (a.put oj.dst u).put oi.dst v := fun v u => Act.put_comm a v u h2
      unfold mOp at H
      simp only [hi] at H
      by_cases hwi : Region.wanted oi (yielded ops a.tmps) = true
      · simp only [hwi, if_true] at H
        by_cases hai : act i = true
        · -- i turns the world: j only looks
          simp only [hai, if_true] at H
          have hnf : finB md ops act i = true → freeB ops act j = true := fin_two hcl hr hj hji
          have hor : C w ∨ freeB ops act j = true := hor.imp id (fun h => h.resolve_right (fun h => freeB_act h hai))
          have haj : act j = false := hij hai
          unfold mOp
          simp only [hoj]
          have H' : does P oi a w (fun v w1 => (C w1 ∨ finB md ops act i = true) ∧ mOp P md ops C act j (wpAnyG P md ops C act Q fuel (nx act (nx act o i) j) ((listed.setIfInBounds i true).setIfInBounds j true)) (a.put oi.dst v) w1) :=
            H.mono fun v w1 ⟨hc, hk⟩ => ⟨hc, hk.2 j hjr hok'⟩
          by_cases hwj : Region.wanted oj (yielded ops a.tmps) = true
          · simp only [hwj, if_true, haj, Bool.false_eq_true, if_false]
            obtain ⟨v0, w0, hc0, hk0⟩ := H'.some
            unfold mOp at hk0
            simp only [hoj, wj, hwj, if_true, haj, Bool.false_eq_true, if_false, ej] at hk0
            obtain ⟨u, hu, _⟩ := hk0
            have hall : ∀ w2, C w2 ∨ w2 = w → (execOp a.eval oj).run P w2 = .ok (.value u) w2 := fun w2 h => by
              rcases hor with hCw | hf
              · rcases hc0.imp id hnf with hc0 | hf
                · exact hu w2 (.inl (h.elim id (fun e => e ▸ hCw)))
                · exact freeB_run hf hoj (hu w0 (.inr rfl)) w2
              · exact freeB_run hf hoj (hu w0 (.inr rfl)) w2
            refine ⟨u, hall, behind u w (hCw.imp id Lin.set) ?_⟩
            unfold mOp
            simp only [hi, wi, hwi, if_true, hai]
            have : does P oi a w (fun v w1 => (C w1 ∨ finB md ops act i = true) ∧ wpAnyG P md ops C act Q fuel (nx act (nx act o i) j) ((listed.setIfInBounds i true).setIfInBounds j true) ((a.put oj.dst u).put oi.dst v) w1) := by
              refine H'.mono fun v w1 ⟨hc, hk⟩ => ⟨hc, ?_⟩
              unfold mOp at hk
              simp only [hoj, wj, hwj, if_true, haj, Bool.false_eq_true, if_false, ej] at hk
              obtain ⟨u', hu', hk'⟩ := hk
              have e1 : (execOp a.eval oj).run P w1 = .ok (.value u) w1 := by
                rcases hc.imp id hnf with hc | hf
                · exact hall w1 (.inl hc)
                · exact freeB_run hf hoj (hu w0 (.inr rfl)) w1
              have e := e1.symm.trans (hu' w1 (.inr rfl))
              simp only [Result.ok.injEq, Next.value.injEq, and_true] at e
              subst e
              rw [← pc]
              exact hk'
            unfold does at this ⊢
            rw [ei]
            exact this
          · simp only [hwj, if_false]
            refine behind undef w (hCw.imp id Lin.set) ?_
            unfold mOp
            simp only [hi, wi, hwi, if_true, hai]
            have : does P oi a w (fun v w1 => (C w1 ∨ finB md ops act i = true) ∧ wpAnyG P md ops C act Q fuel (nx act (nx act o i) j) ((listed.setIfInBounds i true).setIfInBounds j true) ((a.put oj.dst undef).put oi.dst v) w1) := by
              refine H'.mono fun v w1 ⟨hc, hk⟩ => ⟨hc, ?_⟩
              unfold mOp at hk
              simp only [hoj, wj, hwj, if_false] at hk
              rw [← pc]
              exact hk
            unfold does at this ⊢
            rw [ei]
            exact this
        · -- i only looks
          simp only [hai, if_false] at H
          obtain ⟨v, hv, hk⟩ := H
          have hk2 := hk.2 j hjr hok'
          have mi : ∀ (u : Value) (w' : World), C w' ∨ freeB ops act i = true ∨ w' = w → wpAnyG P md ops C act Q fuel (nx act (nx act o i) j) ((listed.setIfInBounds i true).setIfInBounds j true) ((a.put oi.dst v).put oj.dst u) w' →
              mOp P md ops C act i (fun a' w'' => wpAnyG P md ops C act Q fuel (nx act (nx act o i) j) ((listed.setIfInBounds i true).setIfInBounds j true) a' w'') (a.put oj.dst u) w' := fun u w' hC' h => by
            unfold mOp
            simp only [hi, wi, hwi, if_true, hai, if_false, ei]
            refine ⟨v, fun w2 h => ?_, ?_⟩
            · rcases h with h | rfl
              · exact hv w2 (.inl h)
              · rcases hC' with h | h | rfl
                · exact hv w2 (.inl h)
                · exact freeB_run h hi (hv w (.inr rfl)) w2
                · exact hv w2 (.inr rfl)
            rw [← pc]
            exact h
          unfold mOp at hk2 ⊢
          simp only [hoj, wj] at hk2 ⊢
          by_cases hwj : Region.wanted oj (yielded ops a.tmps) = true
          · simp only [hwj, if_true] at hk2 ⊢
            by_cases haj : act j = true
            · simp only [haj, if_true] at hk2 ⊢
              have : does P oj a w (fun u w1 => (C w1 ∨ finB md ops act j = true) ∧ wpAnyG P md ops C act Q fuel (nx act (nx act o i) j) ((listed.setIfInBounds i true).setIfInBounds j true) ((a.put oi.dst v).put oj.dst u) w1) := by
                unfold does at hk2 ⊢
                rw [ej] at hk2
                exact hk2
              exact this.mono fun u w1 ⟨hc, h⟩ => ⟨hc, behind u w1 (hc.imp id (fin_lin hcl hj)) (mi u w1 (hc.imp id (fun h => .inl (hnfj h))) h)⟩
            · simp only [haj, if_false, ej] at hk2 ⊢
              obtain ⟨u, hu, h⟩ := hk2
              exact ⟨u, hu, behind u w (hCw.imp id Lin.set) (mi u w (.inr (.inr rfl)) h)⟩
          · simp only [hwj, if_false] at hk2 ⊢
            exact behind undef w (hCw.imp id Lin.set) (mi undef w (.inr (.inr rfl)) hk2)
      · -- i is passed over
        simp only [hwi, if_false] at H
        have hk2 := H.2 j hjr hok'
        have mi : ∀ (u : Value) (w' : World), wpAnyG P md ops C act Q fuel (nx act (nx act o i) j) ((listed.setIfInBounds i true).setIfInBounds j true) ((a.put oi.dst undef).put oj.dst u) w' →
            mOp P md ops C act i (fun a' w'' => wpAnyG P md ops C act Q fuel (nx act (nx act o i) j) ((listed.setIfInBounds i true).setIfInBounds j true) a' w'') (a.put oj.dst u) w' := fun u w' h => by
          unfold mOp
          simp only [hi, wi, hwi, if_false]
          rw [← pc]
          exact h
        unfold mOp at hk2 ⊢
        simp only [hoj, wj] at hk2 ⊢
        by_cases hwj : Region.wanted oj (yielded ops a.tmps) = true
        · simp only [hwj, if_true] at hk2 ⊢
          by_cases haj : act j = true
          · simp only [haj, if_true] at hk2 ⊢
            have : does P oj a w (fun u w1 => (C w1 ∨ finB md ops act j = true) ∧ wpAnyG P md ops C act Q fuel (nx act (nx act o i) j) ((listed.setIfInBounds i true).setIfInBounds j true) ((a.put oi.dst undef).put oj.dst u) w1) := by
              unfold does at hk2 ⊢
              rw [ej] at hk2
              exact hk2
            exact this.mono fun u w1 ⟨hc, h⟩ => ⟨hc, behind u w1 (hc.imp id (fin_lin hcl hj)) (mi u w1 h)⟩
          · simp only [haj, if_false, ej] at hk2 ⊢
            obtain ⟨u, hu, h⟩ := hk2
            exact ⟨u, hu, behind u w (hCw.imp id Lin.set) (mi u w h)⟩
        · simp only [hwj, if_false] at hk2 ⊢
          exact behind undef w (hCw.imp id Lin.set) (mi undef w hk2)
inductive Tr where
  | nil
  | op (i : Nat) (t : Tr)
  | alt (i : Nat) (s t : Tr)
  | stop
def coversB (md : Region.Mode) (ops : Array Oper) (act : Nat → Bool) (M : List Nat) (listed : Array Bool) : Bool :=
  (List.range ops.size).all fun j => !act j || listed.getD j false || M.contains j || M.any fun i => waitsB md ops ops.size j i
def Tr.okB (md : Region.Mode) (ops : Array Oper) (act : Nat → Bool) : Tr → Nat → Option Nat → List Nat → Array Bool → Bool
  | .nil, _, _, M, listed => M.isEmpty && (Region.ready md ops listed).isEmpty
  | .op i t, fuel, o, M, listed => M.isEmpty && (match fuel with
    | 0 => false
    | f + 1 => (Region.ready md ops listed).contains i && Region.free md ops listed i && (!act i || o == some i) && Tr.okB md ops act t f (nx act o i) [] (listed.setIfInBounds i true))
  | .alt i s t, fuel, o, M, listed => o.isNone && act i && !listed.getD i true && Tr.okB md ops act s fuel (some i) [] listed && Tr.okB md ops act t fuel none (i :: M) listed
  | .stop, _, o, M, listed => o.isNone && !M.isEmpty && coversB md ops act M listed
def wpTr (P : Program) (md : Region.Mode) (ops : Array Oper) (C : World → Prop) (act : Nat → Bool) (Q : Act → World → Prop) : Tr → Act → World → Prop
  | .nil, a, w => Q a w
  | .op i t, a, w => mOp P md ops C act i (wpTr P md ops C act Q t) a w
  | .alt _ s t, a, w => wpTr P md ops C act Q s a w ∧ wpTr P md ops C act Q t a w
  | .stop, _, _ => True
theorem G_ready_nil {Q : Act → World → Prop} {listed : Array Bool} {a : Act} {w : World} (hr : Region.ready md ops listed = []) (h : Q a w) : ∀ (fuel : Nat) (o : Option Nat), wpAnyG P md ops C act Q fuel o listed a w
  | 0, _ => ⟨hr, h⟩
  | _ + 1, _ => ⟨fun _ => h, fun i hi => by rw [hr] at hi; cases hi⟩
theorem G_split {Q : Act → World → Prop} {M : List Nat} (hne : M ≠ []) (hA : ∀ i ∈ M, act i = true) : ∀ (fuel : Nat) (listed : Array Bool) (a : Act) (w : World), Closed md ops listed → (∀ i ∈ M, listed.getD i true = false) →
    (∀ j, j < ops.size → act j = true → listed.getD j false = true ∨ j ∈ M ∨ ∃ i ∈ M, waitsB md ops ops.size j i = true) →
    (∀ i ∈ M, wpAnyG P md ops C act Q fuel (some i) listed a w) → wpAnyG P md ops C act Q fuel none listed a w
  | 0, listed, a, w, _, _, _, h => by
    obtain ⟨i, hi⟩ := List.exists_mem_of_ne_nil _ hne
    exact h i hi
  | fuel + 1, listed, a, w, hcl, hun, hcov, h => by
    obtain ⟨i0, hi0⟩ := List.exists_mem_of_ne_nil _ hne
    refine ⟨(h i0 hi0).1, fun j hj _ => ?_⟩
    obtain ⟨hjun, oj, hoj, hall⟩ := mem_ready.1 hj
    have hjlt : j < ops.size := (Array.getElem?_eq_some_iff.1 hoj).1
    have hjf : listed.getD j false = false := by
      have := hcl.1
      simp [show j < listed.size by omega] at hjun ⊢
      exact hjun
    have e0 : nx act none j = none := by unfold nx; split <;> rfl
    rw [e0]
    cases haj : act j with
    | true =>
      have hjM : j ∈ M := by
        rcases hcov j hjlt haj with h1 | h1 | ⟨i, hi, h1⟩
        · rw [hjf] at h1; cases h1
        · exact h1
        · exfalso
          have hif : listed.getD i false = false := by
            have := hun i hi
            rcases Nat.lt_or_ge i listed.size with h' | h'
            · simp [h'] at this ⊢; exact this
            · simp [Array.getElem?_eq_none h'] at this
          exact (waits_unlisted hcl hif _ _ h1).2 hj
      have := (h j hjM).2 j hj (fun _ => .inr rfl)
      rwa [show nx act (some j) j = none by unfold nx; rw [haj]; rfl] at this
    | false =>
      have hall' : ∀ i ∈ M, mOp P md ops C act j (wpAnyG P md ops C act Q fuel (some i) (listed.setIfInBounds j true)) a w := fun i hi => by
        have := (h i hi).2 j hj (fun h => by rw [haj] at h; cases h)
        rwa [show nx act (some i) j = some i by unfold nx; rw [haj]; rfl] at this
      have hun' : ∀ i ∈ M, (listed.setIfInBounds j true).getD i true = false := fun i hi => by
        have hij : j ≠ i := fun e => by have := hA i hi; rw [← e, haj] at this; cases this
        rw [getD_set_ne true hij]
        exact hun i hi
      have hcov' : ∀ k, k < ops.size → act k = true → (listed.setIfInBounds j true).getD k false = true ∨ k ∈ M ∨ ∃ i ∈ M, waitsB md ops ops.size k i = true := fun k hk hak => by
        rcases hcov k hk hak with h1 | h1
        · exact .inl (getD_set_true h1)
        · exact .inr h1
      have h0 := hall' i0 hi0
      unfold mOp at h0 ⊢
      simp only [hoj] at h0 ⊢
      split
      · rename_i hwant
        simp only [hwant, if_true, haj, Bool.false_eq_true, if_false] at h0 ⊢
        obtain ⟨v, hv, hk0⟩ := h0
        refine ⟨v, hv, G_split hne hA fuel _ _ _ (hcl.set hj) hun' hcov' (fun i hi => ?_)⟩
        have h1 := hall' i hi
        unfold mOp at h1
        simp only [hoj, hwant, if_true, haj, Bool.false_eq_true, if_false] at h1
        obtain ⟨v', hv', hk'⟩ := h1
        have e := (hv w (.inr rfl)).symm.trans (hv' w (.inr rfl))
        simp only [Result.ok.injEq, Next.value.injEq, and_true] at e
        subst e
        exact hk'
      · rename_i hwant
        refine G_split hne hA fuel _ _ _ (hcl.set hj) hun' hcov' (fun i hi => ?_)
        have h1 := hall' i hi
        unfold mOp at h1
        simp only [hoj, hwant, if_false] at h1
        exact h1
theorem tr_sound {Q : Act → World → Prop} (hs : Region.noSelect ops = true) : ∀ (t : Tr) (fuel : Nat) (o : Option Nat) (M : List Nat) (listed : Array Bool) (a : Act) (w : World), C w ∨ Lin md ops act listed → Closed md ops listed → t.okB md ops act fuel o M listed = true →
    (∀ i ∈ M, act i = true ∧ listed.getD i true = false ∧ wpAnyG P md ops C act Q fuel (some i) listed a w) → wpTr P md ops C act Q t a w → wpAnyG P md ops C act Q fuel o listed a w
  | .nil, fuel, o, M, listed, a, w, hw, hcl, hB, hM, h => by
    simp only [Tr.okB, Bool.and_eq_true, List.isEmpty_iff] at hB
    exact G_ready_nil hB.2 h fuel o
  | .stop, fuel, o, M, listed, a, w, hw, hcl, hB, hM, h => by
    simp only [Tr.okB, Bool.and_eq_true, Bool.not_eq_true', Option.isNone_iff_eq_none] at hB
    obtain ⟨⟨rfl, hne⟩, hc⟩ := hB
    refine G_split (M := M) (fun e => by rw [e] at hne; cases hne) (fun i hi => (hM i hi).1) fuel listed a w hcl (fun i hi => (hM i hi).2.1) (fun j hj haj => ?_) (fun i hi => (hM i hi).2.2)
    unfold coversB at hc
    have := List.all_eq_true.1 hc j (List.mem_range.2 hj)
    simp only [haj, Bool.not_true, Bool.false_or, Bool.or_eq_true, List.contains_iff_mem, List.any_eq_true] at this
    rcases this with (h1 | h1) | h1
    · exact .inl h1
    · exact .inr (.inl h1)
    · exact .inr (.inr h1)
  | .alt i s t, fuel, o, M, listed, a, w, hw, hcl, hB, hM, h => by
    simp only [Tr.okB, Bool.and_eq_true, Bool.not_eq_true', Option.isNone_iff_eq_none] at hB
    obtain ⟨⟨⟨⟨rfl, hi⟩, hl⟩, hs'⟩, ht⟩ := hB
    have h1 := tr_sound hs s fuel (some i) [] listed a w hw hcl hs' (fun _ h => by cases h) h.1
    refine tr_sound hs t fuel none (i :: M) listed a w hw hcl ht (fun j hj => ?_) h.2
    rcases List.mem_cons.1 hj with rfl | hj
    · exact ⟨hi, hl, h1⟩
    · exact hM j hj
  | .op i t, fuel, o, M, listed, a, w, hw, hcl, hB, hM, h => by
    simp only [Tr.okB, Bool.and_eq_true] at hB
    obtain ⟨_, hB⟩ := hB
    cases fuel with
    | zero => cases hB
    | succ f =>
      simp only [Bool.and_eq_true, Bool.or_eq_true, Bool.not_eq_true', beq_iff_eq] at hB
      obtain ⟨⟨⟨hr, hf⟩, hact⟩, hB'⟩ := hB
      have hr' : i ∈ Region.ready md ops listed := by simpa using hr
      obtain ⟨_, oi, hoi, _⟩ := mem_ready.1 hr'
      refine mG_first hoi (Region.noSelect_spec hs) f o listed a w (fun ha => ?_) hw hcl (Region.free_spec hoi hf) hr' ?_
      · rcases hact with h1 | h1
        · rw [ha] at h1; cases h1
        · exact h1
      · have go : ∀ a' w', (C w' ∨ Lin md ops act (listed.setIfInBounds i true)) → wpTr P md ops C act Q t a' w' → wpAnyG P md ops C act Q f (nx act o i) (listed.setIfInBounds i true) a' w' := fun a' w' hw' h' =>
          tr_sound hs t f (nx act o i) [] _ a' w' hw' (hcl.set hr') hB' (fun _ h => by cases h) h'
        simp only [wpTr] at h
        unfold mOp at h ⊢
        simp only [hoi] at h ⊢
        split
        · rename_i hwant
          simp only [hwant, if_true] at h
          split
          · rename_i ha
            simp only [ha, if_true] at h
            exact h.mono fun v w' ⟨h1, h2⟩ => ⟨h1, go _ _ (h1.imp id (fin_lin hcl hr')) h2⟩
          · rename_i ha
            simp only [ha] at h
            obtain ⟨v, h1, h2⟩ := h
            exact ⟨v, h1, go _ _ (hw.imp id Lin.set) h2⟩
        · rename_i hwant
          simp only [hwant] at h
          exact go _ _ (hw.imp id Lin.set) h
theorem wp_region_tr {id : Nat} {Q : Exit → Act → World → Prop} {a : Act} {w : World} (act : Nat → Bool) (t : Tr) (hm : P.follows .mixedOrders = true) (hs : Region.noSelect ops = true) (hB : t.okB .any ops act ops.size none [] (Array.replicate ops.size false) = true)
    (hC : C { w with drawn := w.drawn + 1 }) (h : wpTr P .any ops C act (fun a' w' => Q .normal a' w') t a { w with drawn := w.drawn + 1 }) : (Code.region id ops true).wp P Q a w :=
  wp_region_any hm (wpAny_of_M (C := C) (act := act) (Q := fun a' w' => Q .normal a' w') (fun _ _ h => h) _ _ _ _
    (wpAnyM_of_G _ _ _ _ (tr_sound hs t ops.size none [] _ a _ (.inl hC) ⟨by simp, fun j oj hj hl => by rw [getD_replicate_false] at hl; cases hl⟩ hB (fun _ h => by cases h) h)))
end
def NB (F : Fr) (S : Nat → Prop) (w0 : World) (al : List Nat) (e : Env) (all : List Oper) (t : Tr) (k : List It) (w : World) : Prop :=
  ∀ w', Same w w' → ∀ a, Ag F.z e a → wpTr F.P .any all.toArray (Ext S w0) (fun j => al.contains j) (fun a' w2 => post F k .normal a' w2) t a w'
def N (F : Fr) (S : Nat → Prop) (w0 : World) (al : List Nat) (e : Env) (all : List Oper) (t : Tr) (k : List It) (w : World) : Prop :=
  Ext S w0 w → NB F S w0 al e all t k w
section
variable {F : Fr} {S : Nat → Prop} {w0 : World} {al : List Nat} {e : Env} {k : List It} {w : World} {all : List Oper} {i d : Nat} {op : Op} {ty : TypeId} {pos : String} {af : Array Edge} {g : Option (Nat × Bool)} {t t' : Tr}
theorem G.tree {id : Nat} {l : List Oper} (S : Nat → Prop) (al : List Nat) (t : Tr) (hm : F.P.follows .mixedOrders = true) (hs : Region.noSelect l.toArray = true) (hB : t.okB .any l.toArray (fun j => al.contains j) l.length none [] (Array.replicate l.length false) = true)
    (h : N F S w al e l t k w) : G F e (.region id l.toArray true) k w :=
  fun w' hw a ha => wp_region_tr (C := Ext S w) (fun j => al.contains j) t hm hs (by simpa using hB) (.same (hw.trans (same_draw w'))) (by simpa using h (.refl _) _ (hw.trans (same_draw w')) a ha)
theorem NB.nil (h : A F e k w) : NB F S w0 al e all .nil k w := fun w' hw a ha => h w' hw a ha
theorem NB.stop : NB F S w0 al e all .stop k w := fun _ _ _ _ => trivial
theorem NB.alt (h : NB F S w0 al e all t' k w) (h' : NB F S w0 al e all t k w) : NB F S w0 al e all (.alt i t' t) k w := fun w' hw a ha => ⟨h w' hw a ha, h' w' hw a ha⟩
theorem NB.p {v : Value} (ho : all[i]? = some ⟨some d, op, ty, pos, af, g⟩) (hi : al.contains i = false) (hd : Nat.blt d F.n = true) (hg : gd e all g = some true) (h : ∀ w', Ext S w0 w' ∨ w' = w → Ev F.P e op w' v) (next : NB F S w0 al ((d, v) :: e) all t k w) :
    NB F S w0 al e all (.op i t) k w := by
  intro w' hw a ha
  unfold wpTr mOp
  rw [show all.toArray[i]? = _ by simpa using ho]
  simp only [hi]
  rw [if_pos (gd_wanted ha hg), if_neg (by simp)]
  refine ⟨v, fun w2 hw2 => ?_, next w' hw _ (ha.put hd v)⟩
  rcases hw2 with hw2 | rfl
  · exact h w2 (.inl hw2) w2 (.refl w2) a.eval (fun x u hx => ha.ev hx) _ rfl
  · exact h w (.inr rfl) w2 (.same hw) a.eval (fun x u hx => ha.ev hx) _ rfl
theorem NB.skip (ho : all[i]? = some ⟨some d, op, ty, pos, af, g⟩) (hd : Nat.blt d F.n = true) (hg : gd e all g = some false) (next : NB F S w0 al ((d, undef) :: e) all t k w) : NB F S w0 al e all (.op i t) k w := by
  intro w' hw a ha
  unfold wpTr mOp
  rw [show all.toArray[i]? = _ by simpa using ho]
  simp only
  rw [if_neg (by rw [gd_wanted ha hg]; simp)]
  exact next w' hw _ (ha.put hd undef)
theorem NB.v0 {Post : Value → World → Prop} (ho : all[i]? = some ⟨some d, op, ty, pos, af, g⟩) (hi : al.contains i = true) (hd : Nat.blt d F.n = true) (hg : gd e all g = some true) (h : DoV F.P e op w Post) (hC : ∀ v w2, Post v w2 → Ext S w0 w2 ∨ finB .any all.toArray (fun j => al.contains j) i = true)
    (next : ∀ v w2, Post v w2 → NB F S w0 al ((d, v) :: e) all t k w2) : NB F S w0 al e all (.op i t) k w := by
  intro w' hw a ha
  unfold wpTr mOp
  rw [show all.toArray[i]? = _ by simpa using ho]
  simp only [hi]
  rw [if_pos (gd_wanted ha hg), if_pos trivial]
  obtain ⟨v, w2, w3, hr, hs, hp⟩ := h w' hw a.eval (fun x u hx => ha.ev hx) ⟨some d, op, ty, pos, af, g⟩ rfl
  unfold does
  rw [hr]
  exact ⟨(hC v w2 hp).imp (fun h => h.trans (.same hs)) id, next v w2 hp w3 hs _ (ha.put hd v)⟩
theorem NB.s0 {Post : World → Prop} (ho : all[i]? = some ⟨none, op, ty, pos, af, g⟩) (hi : al.contains i = true) (hg : gd e all g = some true) (h : DoS F.P e op w Post) (hC : ∀ w2, Post w2 → Ext S w0 w2 ∨ finB .any all.toArray (fun j => al.contains j) i = true)
    (next : ∀ w2, Post w2 → NB F S w0 al e all t k w2) : NB F S w0 al e all (.op i t) k w := by
  intro w' hw a ha
  unfold wpTr mOp
  rw [show all.toArray[i]? = _ by simpa using ho]
  simp only [hi]
  rw [if_pos (gd_wanted ha hg), if_pos trivial]
  obtain ⟨w2, w3, hr, hs, hp⟩ := h w' hw a.eval (fun x u hx => ha.ev hx) ⟨none, op, ty, pos, af, g⟩ rfl
  unfold does
  rw [hr]
  exact ⟨(hC w2 hp).imp (fun h => h.trans (.same hs)) id, next w2 hp w3 hs _ (ha.put0 undef)⟩
theorem NB.sL {Post : World → Prop} (ho : all[i]? = some ⟨none, op, ty, pos, af, g⟩) (hi : al.contains i = true) (hg : gd e all g = some true) (h : DoS F.P e op w Post) (hf : finB .any all.toArray (fun j => al.contains j) i = true)
    (next : ∀ w2, Post w2 → NB F S w0 al e all t k w2) : NB F S w0 al e all (.op i t) k w := .s0 ho hi hg h (fun _ _ => .inr hf) next
theorem N.nil (h : A F e k w) : N F S w0 al e all .nil k w := fun _ => .nil h
theorem N.stop : N F S w0 al e all .stop k w := fun _ => .stop
theorem N.alt (h : N F S w0 al e all t' k w) (h' : N F S w0 al e all t k w) : N F S w0 al e all (.alt i t' t) k w := fun hX => .alt (h hX) (h' hX)
theorem N.p {v : Value} (ho : all[i]? = some ⟨some d, op, ty, pos, af, g⟩) (hi : al.contains i = false) (hd : Nat.blt d F.n = true) (hg : gd e all g = some true) (h : ∀ w', Ext S w0 w' → Ev F.P e op w' v) (next : N F S w0 al ((d, v) :: e) all t k w) :
    N F S w0 al e all (.op i t) k w := fun hX => .p ho hi hd hg (fun w' hw' => h w' (hw'.elim id (fun e => e ▸ hX))) (next hX)
theorem N.skip (ho : all[i]? = some ⟨some d, op, ty, pos, af, g⟩) (hd : Nat.blt d F.n = true) (hg : gd e all g = some false) (next : N F S w0 al ((d, undef) :: e) all t k w) : N F S w0 al e all (.op i t) k w := fun hX => .skip ho hd hg (next hX)
theorem N.v {Post : Value → World → Prop} (ho : all[i]? = some ⟨some d, op, ty, pos, af, g⟩) (hi : al.contains i = true) (hd : Nat.blt d F.n = true) (hg : gd e all g = some true) (h : DoV F.P e op w Post) (hC : ∀ v w2, Post v w2 → Ext S w0 w2)
    (next : ∀ v w2, Post v w2 → N F S w0 al ((d, v) :: e) all t k w2) : N F S w0 al e all (.op i t) k w := fun hX => .v0 ho hi hd hg h (fun v w2 hp => .inl (hC v w2 hp)) (fun v w2 hp => next v w2 hp (hC v w2 hp))
theorem N.s {Post : World → Prop} (ho : all[i]? = some ⟨none, op, ty, pos, af, g⟩) (hi : al.contains i = true) (hg : gd e all g = some true) (h : DoS F.P e op w Post) (hC : ∀ w2, Post w2 → Ext S w0 w2)
    (next : ∀ w2, Post w2 → N F S w0 al e all t k w2) : N F S w0 al e all (.op i t) k w := fun hX => .s0 ho hi hg h (fun w2 hp => .inl (hC w2 hp)) (fun w2 hp => next w2 hp (hC w2 hp))
theorem N.sL {Post : World → Prop} (ho : all[i]? = some ⟨none, op, ty, pos, af, g⟩) (hi : al.contains i = true) (hg : gd e all g = some true) (h : DoS F.P e op w Post) (hf : finB .any all.toArray (fun j => al.contains j) i = true)
    (next : ∀ w2, Post w2 → NB F S w0 al e all t k w2) : N F S w0 al e all (.op i t) k w := fun _ => .sL ho hi hg h hf next
theorem N.call {c : Operand} {f : FuncId} {xs : List Operand} {ats : Array TypeId} {vs first captured : List Value} {Post : Value → World → Prop} (ho : all[i]? = some ⟨some d, .call { callee := .value c, args := xs.toArray, argTypes := ats }, ty, pos, af, g⟩) (hi : al.contains i = true) (hd : Nat.blt d F.n = true) (hg : gd e all g = some true)
    (hf : look e c = some (.func (.func f) first.toArray captured.toArray)) (hx : xs.mapM (look e) = some vs) (hc : Fn F.P f (first ++ vs ++ captured) w Post) (hC : ∀ r w2, Post r w2 → Ext S w0 w2) (next : ∀ r w2, Post r w2 → N F S w0 al ((d, r) :: e) all t k w2) :
    N F S w0 al e all (.op i t) k w := by
  intro hX w' hw a ha
  unfold wpTr mOp
  rw [show all.toArray[i]? = _ by simpa using ho]
  simp only [hi]
  rw [if_pos (gd_wanted ha hg), if_pos trivial]
  unfold does
  rw [run_call_value rfl (ha.ev hf), look_args (fun x u hx => ha.ev hx) xs vs hx, hc.1 w']
  refine (hc.2 w' hw).mono fun en w3 ⟨r, w2, hs, he, hp⟩ => ?_
  subst he
  exact ⟨.inl ((hC r w2 hp).trans (.same hs)), next r w2 hp (hC r w2 hp) w3 hs _ (ha.put hd r)⟩
theorem N.case (n : Nat) {b : Bool} (h : e.get n = some (.bool b)) (h1 : b = true → N F S w0 al ((n, .bool true) :: e) all t k w) (h2 : b = false → N F S w0 al ((n, .bool false) :: e) all t k w) : N F S w0 al e all t k w := by
  have hkeep : ∀ {m : Sz} {a : Act}, Ag m e a → Ag m ((n, .bool b) :: e) a := fun ha => ⟨ha.1, ha.2.1, fun t' v' h' => by
    simp only [Env.get, cond_eq_ite, Nat.beq_eq] at h'
    by_cases ht : n = t'
    · subst ht; simp at h'; subst h'; exact ha.2.2 _ _ h
    · rw [if_neg ht] at h'; exact ha.2.2 _ _ h'⟩
  intro hX w' hw a ha
  cases b
  · exact h2 rfl hX w' hw a (hkeep ha)
  · exact h1 rfl hX w' hw a (hkeep ha)
theorem N.caseD (n : Nat) {p : Prop} [Decidable p] (h : e.get n = some (.bool (decide p))) (h1 : p → N F S w0 al ((n, .bool true) :: e) all t k w) (h2 : ¬ p → N F S w0 al ((n, .bool false) :: e) all t k w) : N F S w0 al e all t k w :=
  N.case n h (fun hb => h1 (of_decide_eq_true hb)) (fun hb => h2 (of_decide_eq_false hb))
end
end Go.Proofs.YtpfehnopghffjaaGreatDoor
namespace Go.Proofs.YtpfehnopghffjaaGreatDoor
open Go disk
namespace disk
theorem check_ok {d : Disk} (h : checkF d = 0) : 1 ≤ d.count ∧ d.count ≤ 4096 ∧ (d.data.length : Int) = d.count * 128 ∧ d.waits.length ≤ 4096 ∧ ∀ p ∈ d.waits, 0 ≤ p.sector ∧ p.sector < d.count ∧ p.data.length = 128 := by
  unfold checkF at h
  split at h
  · cases h
  · split at h
    · rename_i c1 c2
      refine ⟨by omega, by omega, by omega, by omega, fun p hp => ?_⟩
      have := List.all_eq_true.1 c2 p hp
      unfold okPut at this
      rwa [decide_eq_true_eq] at this
    · cases h
end disk
namespace disk
def nodisk : Disk := ⟨0, [], []⟩
def lastOf (ws : List disk.Put) (n : Int) : Option Bs := (ws.reverse.find? (fun p => p.sector = n)).map (·.data)
def readF (d : Disk) (n : Int) : Bs := match lastOf d.waits n with | some b => b | none => (d.data.drop (n.toNat * 128)).take 128
end disk
namespace disk
end disk
end Go.Proofs.YtpfehnopghffjaaGreatDoor
namespace Go.Proofs.YtpfehnopghffjaaGreatDoor
open Go disk
theorem Own.keep {α : Type} {t : Ty α} {Q : Nat → Prop} {E : TypeId} {w w' : World} {v : Value} {xs : List α} {b : Nat} (h : Own t Q E w v xs b) (hb : w'.heap[b]? = w.heap[b]?) (hq : ∀ k, Q k → k < w.heap.size → w'.heap[k]? = w.heap[k]?) : Own t Q E w' v xs b := by
  obtain ⟨hl, h | ⟨cap, us, sp, hv, hc, he, hB, hn⟩⟩ := h
  · exact ⟨hl, .inl h⟩
  · exact ⟨hl, .inr ⟨cap, us, sp, hv, hc, he.imp (fun u x hu => t.keep hu hq), hB.keep hb, hn⟩⟩
theorem size_le_of {w w' : World} {b : Nat} (hb : w'.heap[b]? = w.heap[b]?) (h : b < w.heap.size) : b < w'.heap.size := by
  rcases Nat.lt_or_ge b w'.heap.size with h' | h'
  · exact h'
  · rw [Array.getElem?_eq_none h'] at hb
    simp [h] at hb
def tOwnB : Ty Bs where
  size := 1
  rep P w v l := OwnO tByte (fun _ => False) 5 w v l P
  sz := by rintro P w v l h; obtain ⟨a, cap, rfl, _⟩ := h.val; rfl
  one := by rintro P w v l h u hu; obtain ⟨a, cap, rfl, _⟩ := h.val; simp [Value.cells] at hu; subst hu; rfl
  keep := by
    rintro P w w' v l h hk
    rcases h with h | ⟨b, h1, h2, h3⟩
    · exact .inl h
    · exact .inr ⟨b, h1, size_le_of (hk b h1 h2) h2, h3.keep (hk b h1 h2) (fun _ h _ => h.elim)⟩
  mono := fun h hk => OwnO.mono h (fun _ h _ => h) hk
theorem tOwnB.weak {P : Nat → Prop} {w : World} {v : Value} {l : Bs} (h : tOwnB.rep P w v l) : tBytes.rep P w v l := OwnO.rep h (fun _ h _ => h) (fun _ h _ => h.elim)
namespace disk
def tPutO : Ty Put := (tInt.pair tOwnB).map (fun p => (p.sector, p.data))
theorem tOwnB_one {P : Nat → Prop} {w : World} {u : Value} {l : Bs} (h : tOwnB.rep P w u l) : u.cells = #[u] := by obtain ⟨a, cap, rfl, _⟩ := OwnO.val h; rfl
theorem tPutO.val {P : Nat → Prop} {w : World} {v : Value} {p : Put} (h : tPutO.rep P w v p) : ∃ u, v = .agg #[i64 p.sector, u] ∧ tOwnB.rep P w u p.data ∧ -9223372036854775808 ≤ p.sector ∧ p.sector ≤ 9223372036854775807 := by
  obtain ⟨u, u', rfl, ⟨rfl, h1⟩, h2⟩ := h
  refine ⟨u', ?_, h2, h1⟩
  rw [tOwnB_one h2]
  rfl
theorem tPutO.mk {P : Nat → Prop} {w : World} {p : Put} {u : Value} (h : tOwnB.rep P w u p.data) (h1 : -9223372036854775808 ≤ p.sector ∧ p.sector ≤ 9223372036854775807) : tPutO.rep P w (.agg #[i64 p.sector, u]) p := by
  refine ⟨i64 p.sector, u, ?_, ⟨rfl, h1⟩, h⟩
  rw [tOwnB_one h]
  rfl
theorem tPutO.weak {P : Nat → Prop} {w : World} {v : Value} {p : Put} (h : tPutO.rep P w v p) : tPut.rep P w v p := by
  obtain ⟨u, u', rfl, h1, h2⟩ := h
  exact ⟨u, u', rfl, h1, tOwnB.weak h2⟩
def OwnD (w : World) (v : Value) (d : Disk) (P : Nat → Prop) : Prop :=
  ∃ u u' bd bw Q, v = .agg #[i64 d.count, u, u'] ∧ (-9223372036854775808 ≤ d.count ∧ d.count ≤ 9223372036854775807) ∧ Own tByte (fun _ => False) 5 w u d.data bd ∧ Own tPutO Q 76 w u' d.waits bw ∧ (bd < w.heap.size ∧ bw < w.heap.size ∧ bd ≠ bw ∧ P bd ∧ P bw) ∧ ∀ k, Q k → k < w.heap.size → P k ∧ k ≠ bd ∧ k ≠ bw
end disk
theorem Sl.imp {α : Type} {t t' : Ty α} {P : Nat → Prop} {w : World} {v : Value} {xs : List α} (h : (Sl t).rep P w v xs) (hr : ∀ u x, t.rep P w u x → t'.rep P w u x) : (Sl t').rep P w v xs := by
  obtain ⟨hl, a, cap, rfl, hc, h | ⟨b, o, us, rfl, hb, hlt, he, hcs⟩⟩ := h
  · exact ⟨hl, a, cap, rfl, hc, .inl h⟩
  · exact ⟨hl, _, cap, rfl, hc, .inr ⟨b, o, us, rfl, hb, hlt, he.imp hr, hcs⟩⟩
namespace disk
theorem OwnD.rep {w : World} {v : Value} {d : Disk} {P : Nat → Prop} (h : OwnD w v d P) : tDisk.rep P w v d := by
  obtain ⟨u, u', bd, bw, Q, rfl, hr, h1, h2, ⟨l1, l2, ne, p1, p2⟩, hq⟩ := h
  exact tDisk.mk (h1.rep p1 (fun _ h _ => h.elim)) (Sl.imp (h2.rep p2 (fun k h hk => (hq k h hk).1)) (fun u x h => tPutO.weak h)) hr
theorem OwnD.ext {S : Nat → Prop} {w w' : World} {v : Value} {d : Disk} {P : Nat → Prop} (h : OwnD w v d P) (hx : Ext S w w') (hs : ∀ k, P k → k < w.heap.size → ¬ S k) : OwnD w' v d P := by
  obtain ⟨u, u', bd, bw, Q, rfl, hr, h1, h2, ⟨l1, l2, ne, p1, p2⟩, hq⟩ := h
  refine ⟨u, u', bd, bw, fun k => Q k ∧ k < w.heap.size, rfl, hr, h1.ext hx (hs bd p1 l1) (fun _ h _ => h.elim), (h2.mono (fun k a b => (⟨a, b⟩ : Q k ∧ k < w.heap.size))).ext hx (hs bw p2 l2) (fun k a _ => hs k (hq k a.1 a.2).1 a.2), ⟨?_, ?_, ne, p1, p2⟩, fun k a _ => hq k a.1 a.2⟩
  · exact Nat.lt_of_lt_of_le l1 hx.size
  · exact Nat.lt_of_lt_of_le l2 hx.size
theorem OwnD.ext0 {w w' : World} {v : Value} {d : Disk} {P : Nat → Prop} (h : OwnD w v d P) (hx : Ext (fun _ => False) w w') : OwnD w' v d P := h.ext hx (fun _ _ _ x => x)
theorem OwnD.mono {w : World} {v : Value} {d : Disk} {P P' : Nat → Prop} (h : OwnD w v d P) (hp : ∀ k, P k → k < w.heap.size → P' k) : OwnD w v d P' := by
  obtain ⟨u, u', bd, bw, Q, rfl, hr, h1, h2, ⟨l1, l2, ne, p1, p2⟩, hq⟩ := h
  exact ⟨u, u', bd, bw, Q, rfl, hr, h1, h2, ⟨l1, l2, ne, hp _ p1 l1, hp _ p2 l2⟩, fun k a b => ⟨hp k (hq k a b).1 b, (hq k a b).2⟩⟩
end disk
theorem Own.blk {Q : Nat → Prop} {E : TypeId} {w : World} {v : Value} {l : Bs} {b : Nat} (h : Own tByte Q E w v l b) (hne : l ≠ []) : ∃ cap sp, v = .slice (some ⟨b, 0, none⟩) l.length cap ∧ l.length ≤ cap ∧ Blk w b E (l.map u8 ++ sp) ∧ l.length + sp.length = cap := by
  obtain ⟨hl, ⟨rfl, rfl⟩ | ⟨cap, us, sp, rfl, hc, he, hB, hn⟩⟩ := h
  · exact absurd rfl hne
  · have hu : us = l.map u8 := Each.eq_map u8 he
    subst hu
    rw [flat_u8] at hB hn
    exact ⟨cap, sp, rfl, hc, hB, by rw [List.length_append, List.length_map] at hn; have : tByte.size = 1 := rfl; rw [this] at hn; omega⟩
def HalfAt (w : World) (b cap : Nat) (E : TypeId) (xs : List disk.Put) (Q0 Q1 : Nat → Prop) (i : Nat) : Prop :=
  ∃ us sp, Each (tPutO.rep Q1 w) (us.take i) (xs.take i) ∧ Each (tPut.rep Q0 w) (us.drop i) (xs.drop i) ∧ us.length = xs.length ∧ Blk w b E (flat us ++ sp) ∧ (flat us ++ sp).length = cap * 2
section
variable {w w1 : World} {b cap : Nat} {E : TypeId} {xs : List disk.Put} {Q0 Q1 : Nat → Prop} {i : Nat}
theorem HalfAt.sizes {us : List Value} (h1 : Each (tPutO.rep Q1 w) (us.take i) (xs.take i)) (h2 : Each (tPut.rep Q0 w) (us.drop i) (xs.drop i)) : ∀ x ∈ us, x.cells.size = 2 := by
  intro x hx
  rw [← List.take_append_drop i us, List.mem_append] at hx
  rcases hx with hx | hx
  · exact h1.mem (n := 2) (fun u y h => tPutO.sz h) x hx
  · exact h2.mem (n := 2) (fun u y h => tPut.sz h) x hx
theorem HalfAt.elem (h : HalfAt w b cap E xs Q0 Q1 i) (hi : i < xs.length) : ∃ ud, tBytes.rep Q0 w ud xs[i].data ∧ w.cell? ⟨b, i * 2 + 1, none⟩ = some ud := by
  obtain ⟨us, sp, h1, h2, hl, hB, hn⟩ := h
  have hsz := HalfAt.sizes h1 h2
  have hget : (xs.drop i)[0]? = some xs[i] := by rw [List.getElem?_drop]; simp [hi]
  obtain ⟨u, hu, hr⟩ := h2.get hget
  obtain ⟨ud, rfl, hud, _⟩ := tPut.val hr
  refine ⟨ud, hud, ?_⟩
  have hlt : i < us.length := by omega
  have hui : us[i] = .agg #[i64 xs[i].sector, ud] := by
    rw [List.getElem?_drop] at hu
    simp [hlt] at hu
    exact hu
  have e : (flat us).drop (i * 2) = i64 xs[i].sector :: ud :: flat (us.drop (i + 1)) := by
    rw [← flat_drop i hsz, List.drop_eq_getElem_cons hlt, flat_cons, hui]
    rfl
  rw [hB.cell]
  have hfl := flat_length hsz
  rw [List.getElem?_append_left (by rw [hfl]; omega)]
  have : ((flat us).drop (i * 2))[1]? = some ud := by rw [e]; rfl
  rwa [List.getElem?_drop] at this
theorem HalfAt.put (h : HalfAt w b cap E xs Q0 Q1 i) (hi : i < xs.length) (hx : Ext (fun _ => False) w w1) {r : Value} (hr : tOwnB.rep Q1 w1 r xs[i].data) (hq0 : ∀ k, Q0 k → k ≠ b) (hq1 : ∀ k, Q1 k → k ≠ b) :
    ∃ cs, Blk w1 b E cs ∧ i * 2 + 1 < cs.length ∧ ∀ w2, Go.Proofs.YtpfehnopghffjaaGreatDoor.Put w1 w2 b E (cs.set (i * 2 + 1) r) → HalfAt w2 b cap E xs Q0 Q1 (i + 1) := by
  obtain ⟨us, sp, h1, h2, hl, hB, hn⟩ := h
  have hsz := HalfAt.sizes h1 h2
  have hlt : i < us.length := by omega
  have hfl := flat_length hsz
  have hget : (xs.drop i)[0]? = some xs[i] := by rw [List.getElem?_drop]; simp [hi]
  obtain ⟨u, hu, hre⟩ := h2.get hget
  obtain ⟨ud, rfl, hud, hs⟩ := tPut.val hre
  have hui : us[i]? = some (.agg #[i64 xs[i].sector, ud]) := by
    rw [List.getElem?_drop] at hu
    simpa using hu
  refine ⟨flat us ++ sp, hB.ext hx (fun x => x), by rw [List.length_append, hfl]; omega, fun w2 P => ?_⟩
  have e : (flat us ++ sp).set (i * 2 + 1) r = flat (us.set i (.agg #[i64 xs[i].sector, r])) ++ sp := by
    rw [List.set_append_left _ _ (by rw [hfl]; omega), flat_set (n := 2) i 1 r (.agg #[i64 xs[i].sector, r]) hsz (by omega)]
    intro x hx'
    rw [hui] at hx'
    cases hx'
    rfl
  have hblk := P.blk
  rw [e] at hblk
  refine ⟨us.set i (.agg #[i64 xs[i].sector, r]), sp, ?_, ?_, by simpa using hl, hblk, ?_⟩
  · have e1 : (us.set i (.agg #[i64 xs[i].sector, r])).take (i + 1) = us.take i ++ [.agg #[i64 xs[i].sector, r]] := by
      rw [List.take_succ_eq_append_getElem (by simpa using hlt), List.take_set_of_le (Nat.le_refl _)]
      simp
    rw [e1, List.take_succ_eq_append_getElem hi]
    refine Each.append (h1.imp (fun u x hh => tPutO.ext (tPutO.ext0 hh hx) P.ext (fun k hk _ => hq1 k hk))) (.cons ?_ .nil)
    exact tPutO.mk (tOwnB.ext hr P.ext (fun k hk _ => hq1 k hk)) hs
  · rw [List.drop_set_of_lt (by omega)]
    have h3 := h2.drop 1
    rw [List.drop_drop, List.drop_drop] at h3
    exact h3.imp (fun u x hh => tPut.ext (tPut.ext0 hh hx) P.ext (fun k hk _ => hq0 k hk))
  · rw [← e, List.length_set, hn]
theorem HalfAt.first {us sp : List Value} (h : Each (tPut.rep Q0 w) us xs) (hB : Blk w b E (flat us ++ sp)) (hn : (flat us ++ sp).length = cap * 2) : HalfAt w b cap E xs Q0 Q1 0 :=
  ⟨us, sp, .nil, h, h.length, hB, hn⟩
theorem HalfAt.ext0 (h : HalfAt w b cap E xs Q0 Q1 i) (hx : Ext (fun _ => False) w w1) : HalfAt w1 b cap E xs Q0 Q1 i := by
  obtain ⟨us, sp, h1, h2, hl, hB, hn⟩ := h
  exact ⟨us, sp, h1.imp (fun u x hh => tPutO.ext0 hh hx), h2.imp (fun u x hh => tPut.ext0 hh hx), hl, hB.ext hx (fun x => x), hn⟩
end
def HalfO (w : World) (v : Value) (E : TypeId) (xs : List disk.Put) (Q0 Q1 B : Nat → Prop) (i : Nat) : Prop :=
  (xs = [] ∧ v = .slice none 0 0) ∨ ∃ b cap, v = .slice (some ⟨b, 0, none⟩) xs.length cap ∧ xs.length ≤ cap ∧ B b ∧ xs.length < Lim ∧ HalfAt w b cap E xs Q0 Q1 i
theorem HalfO.first {w : World} {v : Value} {E : TypeId} {xs : List disk.Put} {Q0 Q1 B : Nat → Prop} (h : OwnO tPut Q0 E w v xs B) : HalfO w v E xs Q0 Q1 B 0 := by
  rcases h with h | ⟨b, h1, h2, hl, ⟨rfl, rfl⟩ | ⟨cap, us, sp, rfl, hc, he, hB, hn⟩⟩
  · exact .inl h
  · exact .inl ⟨rfl, rfl⟩
  · exact .inr ⟨b, cap, rfl, hc, h1, hl, HalfAt.first he hB hn⟩
theorem HalfO.ext0 {w w1 : World} {v : Value} {E : TypeId} {xs : List disk.Put} {Q0 Q1 B : Nat → Prop} {i : Nat} (h : HalfO w v E xs Q0 Q1 B i) (hx : Ext (fun _ => False) w w1) : HalfO w1 v E xs Q0 Q1 B i := by
  rcases h with h | ⟨b, cap, rfl, hc, hb, hl, h⟩
  · exact .inl h
  · exact .inr ⟨b, cap, rfl, hc, hb, hl, h.ext0 hx⟩
theorem OwnB.of {w : World} {v : Value} {l : Bs} {b : Nat} {P : Nat → Prop} (h : Own tByte (fun _ => False) 5 w v l b) (hb : P b) : tOwnB.rep P w v l := OwnO.of h hb
end Go.Proofs.YtpfehnopghffjaaGreatDoor
namespace Go.Proofs.YtpfehnopghffjaaGreatDoor
open Go disk
namespace disk
theorem OwnD.none {w : World} {P : Nat → Prop} {b1 b2 : Nat} (h1 : b1 < w.heap.size) (h2 : b2 < w.heap.size) (hne : b1 ≠ b2) (p1 : P b1) (p2 : P b2) : OwnD w (.agg #[i64 0, .slice none 0 0, .slice none 0 0]) nodisk P :=
  ⟨_, _, b1, b2, fun _ => False, rfl, by decide, Own.nil, Own.nil, ⟨h1, h2, hne, p1, p2⟩, fun k h _ => h.elim⟩
theorem OwnD.val {w : World} {v : Value} {d : Disk} {P : Nat → Prop} (h : OwnD w v d P) : ∃ a1 c1 a2 c2, v = .agg #[i64 d.count, .slice a1 d.data.length c1, .slice a2 d.waits.length c2] := by
  obtain ⟨u, u', bd, bw, Q, rfl, hr, h1, h2, _⟩ := h
  obtain ⟨a1, c1, rfl, _⟩ := h1.val
  obtain ⟨a2, c2, rfl, _⟩ := h2.val
  exact ⟨a1, c1, a2, c2, rfl⟩
end disk
end Go.Proofs.YtpfehnopghffjaaGreatDoor
namespace Go.Proofs.YtpfehnopghffjaaGreatDoor
open Go disk
namespace disk
theorem tAct.mk {P : Nat → Prop} {w : World} {a : Act} {u : Value} (h : tBytes.rep P w u a.put.data) (h1 : -9223372036854775808 ≤ a.put.sector ∧ a.put.sector ≤ 9223372036854775807) : tAct.rep P w (.agg #[.bool a.flush, i64 a.put.sector, u]) a := by
  refine ⟨.bool a.flush, .agg #[i64 a.put.sector, u], ?_, rfl, tPut.mk h h1⟩
  rfl
end disk
end Go.Proofs.YtpfehnopghffjaaGreatDoor
namespace Go.Proofs.YtpfehnopghffjaaGreatDoor
open Go disk
theorem Own.pick {α : Type} {t : Ty α} {Q : Nat → Prop} {E : TypeId} {w : World} {v : Value} {xs : List α} {b : Nat} (h : Own t Q E w v xs b) (b0 : Nat) : (Own t Q E w v xs b ∧ b < w.heap.size) ∨ ∀ Q', Own t Q' E w v xs b0 := by
  have h' := h
  obtain ⟨hl, ⟨rfl, rfl⟩ | ⟨cap, us, sp, rfl, hc, he, hB, hn⟩⟩ := h'
  · exact .inr (fun _ => Own.nil)
  · exact .inl ⟨h, hB.lt⟩
namespace disk
end disk
end Go.Proofs.YtpfehnopghffjaaGreatDoor
namespace Go.Proofs.YtpfehnopghffjaaGreatDoor
open Go disk
namespace disk
def largeP (d : Disk) : Prop := (40000 < d.data.length ∧ 0 < d.count ∧ d.count ≤ 4096) ∨ 600000 < d.data.length ∨ (300 < d.waits.length ∧ d.waits.length < 4090) ∨ 4200 < d.waits.length
instance (d : Disk) : Decidable (largeP d) := by unfold largeP; infer_instance
end disk
theorem Blk.inj {w : World} {b : Nat} {E E' : TypeId} {cs cs' : List Value} (h : Blk w b E cs) (h' : Blk w b E' cs') : cs = cs' := by
  obtain ⟨f1, h1, _⟩ := h.heap
  obtain ⟨f2, h2, _⟩ := h'.heap
  rw [h1] at h2
  simp only [Option.some.injEq, Obj.cells.injEq] at h2
  exact List.toArray_inj h2.1
theorem flat_at {n : Nat} {us : List Value} {j t : Nat} {u : Value} (hs : ∀ x ∈ us, x.cells.size = n) (hj : us[j]? = some u) (ht : t < n) : (flat us)[j * n + t]? = u.cells.toList[t]? := by
  have hlt : j < us.length := (List.getElem?_eq_some_iff.1 hj).1
  have hu : us[j] = u := by rw [List.getElem?_eq_getElem hlt] at hj; simpa using hj
  have h1 : (flat us).drop (j * n) = u.cells.toList ++ flat (us.drop (j + 1)) := by
    rw [← flat_drop j hs, List.drop_eq_getElem_cons hlt, flat_cons, hu]
  have h2 : u.cells.toList.length = n := by rw [Array.length_toList]; exact hs u (hu ▸ List.getElem_mem hlt)
  rw [← List.getElem?_drop, h1, List.getElem?_append_left (by omega)]
def WrB (W : World) (Q : Nat → Prop) (v : Value) (n : Nat) : Prop := (n = 0 ∧ v = .slice none 0 0) ∨ ∃ b c ds, v = .slice (some ⟨b, 0, none⟩) n c ∧ Q b ∧ Blk W b 5 ds ∧ n ≤ ds.length
section
variable {W W2 : World} {Q : Nat → Prop} {v u : Value} {n k b bw : Nat} {ds : List Value} {S : Nat → Prop} {xs : List disk.Put}
theorem WrB.put (h : WrB W Q v n) (hB : Blk W b 5 ds) (P : Go.Proofs.YtpfehnopghffjaaGreatDoor.Put W W2 b 5 (ds.set k u)) : WrB W2 Q v n := by
  rcases h with h | ⟨b1, c, ds1, rfl, hq, hB1, hn⟩
  · exact .inl h
  · by_cases e : b1 = b
    · subst e
      have := hB1.inj hB
      subst this
      exact .inr ⟨b1, c, _, rfl, hq, P.blk, by simpa using hn⟩
    · exact .inr ⟨b1, c, ds1, rfl, hq, hB1.ext P.ext e, hn⟩
theorem WrB.ext (h : WrB W Q v n) (hx : Ext S W W2) (hs : ∀ k, Q k → ¬ S k) : WrB W2 Q v n := by
  rcases h with h | ⟨b1, c, ds1, rfl, hq, hB1, hn⟩
  · exact .inl h
  · exact .inr ⟨b1, c, ds1, rfl, hq, hB1.ext hx (hs b1 hq), hn⟩
theorem WrB.val (h : WrB W Q v n) : ∃ a c, v = .slice a n c := by
  rcases h with ⟨rfl, rfl⟩ | ⟨b1, c, ds1, rfl, _⟩
  · exact ⟨none, 0, rfl⟩
  · exact ⟨_, c, rfl⟩
theorem WrB.blk {a : Option Addr} {c : Nat} (h : WrB W Q (.slice a n c) n) (hk : k < n) : ∃ b ds, a = some ⟨b, 0, none⟩ ∧ Q b ∧ Blk W b 5 ds ∧ k < ds.length := by
  rcases h with ⟨rfl, _⟩ | ⟨b1, c, ds1, e, hq, hB1, hn⟩
  · omega
  · cases e
    exact ⟨b1, ds1, rfl, hq, hB1, by omega⟩
theorem WrB.of {P : Nat → Prop} {l : Bs} (h : Own tByte P 5 W v l b) (hb : b < W.heap.size → Q b) : WrB W Q v l.length := by
  rcases h.pick 0 with ⟨h1, h2⟩ | h1
  · by_cases hne : l = []
    · subst hne
      obtain ⟨hl, ⟨_, rfl⟩ | ⟨cap, us, sp, rfl, hc, he, hB, hn⟩⟩ := h1
      · exact .inl ⟨rfl, rfl⟩
      · exact .inr ⟨b, cap, _, rfl, hb h2, hB, Nat.zero_le _⟩
    · obtain ⟨cap, sp, rfl, hc, hB, hn⟩ := h1.blk hne
      exact .inr ⟨b, cap, _, rfl, hb h2, hB, by simp⟩
  · obtain ⟨hl, ⟨rfl, rfl⟩ | ⟨cap, us, sp, rfl, hc, he, hB, hn⟩⟩ := h
    · exact .inl ⟨rfl, rfl⟩
    · refine .inr ⟨b, cap, _, rfl, hb hB.lt, hB, ?_⟩
      have := hc
      rw [hn]
      show l.length ≤ cap * 1
      omega
theorem WrB.mono {Q' : Nat → Prop} (h : WrB W Q v n) (hq : ∀ k, Q k → Q' k) : WrB W Q' v n := by
  rcases h with h | ⟨b1, c, ds1, rfl, h1, hB1, hn⟩
  · exact .inl h
  · exact .inr ⟨b1, c, ds1, rfl, hq _ h1, hB1, hn⟩
def WrD (W : World) (bw : Nat) (Q : Nat → Prop) (xs : List disk.Put) : Prop := xs = [] ∨ ∃ cs, Blk W bw 76 cs ∧ ∀ j (h : j < xs.length), j * 2 + 1 < cs.length ∧ ∃ v, cs[j * 2 + 1]? = some v ∧ WrB W Q v xs[j].data.length
theorem WrD.data (h : WrD W bw Q xs) {i : Nat} (hi : i < xs.length) : ∃ a c, W.cell? ⟨bw, i * 2 + 1, none⟩ = some (.slice a xs[i].data.length c) ∧ WrB W Q (.slice a xs[i].data.length c) xs[i].data.length := by
  rcases h with rfl | ⟨cs, hB, h⟩
  · exact absurd hi (Nat.not_lt_zero _)
  · obtain ⟨h1, v, h2, h3⟩ := h i hi
    obtain ⟨a, c, rfl⟩ := h3.val
    exact ⟨a, c, by rw [hB.cell]; exact h2, h3⟩
theorem WrD.of (h : Own tPutO Q 76 W v xs b) : WrD W b Q xs := by
  obtain ⟨hl, ⟨rfl, rfl⟩ | ⟨cap, us, sp, rfl, hc, he, hB, hn⟩⟩ := h
  · exact .inl rfl
  · refine .inr ⟨_, hB, fun j hj => ?_⟩
    have hsz := he.mem (n := 2) (fun u x h => tPutO.sz h)
    obtain ⟨u, hu, hr⟩ := he.get (List.getElem?_eq_getElem hj)
    obtain ⟨ud, rfl, hud, _⟩ := tPutO.val hr
    have hlt : j < us.length := (List.getElem?_eq_some_iff.1 hu).1
    have hfl := flat_length hsz
    refine ⟨by rw [List.length_append, hfl]; omega, ud, ?_, ?_⟩
    · rw [List.getElem?_append_left (by rw [hfl]; omega), flat_at hsz hu (by omega)]
      rfl
    · rcases hud with ⟨h1, rfl⟩ | ⟨b1, h1, h2, h3⟩
      · exact .inl ⟨by rw [h1]; rfl, rfl⟩
      · exact WrB.of h3 (fun _ => h1)
end
end Go.Proofs.YtpfehnopghffjaaGreatDoor
namespace Go.Proofs.YtpfehnopghffjaaGreatDoor
open Go disk
namespace disk
def D0 : Disk := ⟨2, List.replicate 256 0, []⟩
def D1 : Disk := ⟨2, List.replicate 256 0, [⟨1, List.replicate 128 1⟩]⟩
end disk
end Go.Proofs.YtpfehnopghffjaaGreatDoor
namespace Go.Proofs.YtpfehnopghffjaaGreatDoor
open Go
def Fr.off (F : Fr) (d : Deferred) : Fr := ⟨F.P, ⟨F.z.n, d :: F.z.D⟩, F.R⟩
theorem post_off (F : Fr) (d : Deferred) : ∀ k : List It, post (F.off d) k = post F k
  | [] => rfl
  | .code c :: k => by simp only [post, post_off F d k]; rfl
  | .blk id :: k => by simp only [post, post_off F d k]
  | .inv J :: k => by simp only [post, post_off F d k]
  | .sco :: k => by simp only [post, post_off F d k]
section
variable {F : Fr} {e : Env} {k : List It} {w : World} {all rest : List Oper} {d : Nat} {op : Op} {ty : TypeId} {pos : String} {af : Array Edge} {g : Option (Nat × Bool)}
theorem O.defer {c : Operand} {f : FuncId} {xs : List Operand} {ats : Array TypeId} {vs captured : List Value} (hg : gd e all g = some true)
    (hf : look e c = some (.func (.func f) #[] captured.toArray)) (hx : xs.mapM (look e) = some vs)
    (next : O (F.off ⟨.fn (.func f) captured.toArray, vs.toArray⟩) e all rest k w) :
    O F e all (⟨none, .defer { callee := .value c, args := xs.toArray, argTypes := ats }, ty, pos, af, g⟩ :: rest) k w := by
  intro w' hw a ha
  refine wpList_step fun K hK => ?_
  rw [if_pos (gd_wanted ha hg)]
  unfold Oper.wp
  have hr : (execOp a.eval ⟨none, .defer { callee := .value c, args := xs.toArray, argTypes := ats }, ty, pos, af, g⟩).run F.P w' = .ok (.defer ⟨.fn (.func f) captured.toArray, vs.toArray⟩) w' := by
    have h1 := ha.ev hf
    have h2 := look_args (fun x u hx => ha.ev hx) xs vs hx
    simp [execOp, resolve, Deferred.ofValue, h1, h2, Sem.run_bind]
  rw [hr, Oper.upon_defer]
  refine hK _ _ ?_
  have := next w' hw { a with defers := ⟨.fn (.func f) captured.toArray, vs.toArray⟩ :: a.defers } ⟨by show _ :: a.defers = _; rw [ha.1]; rfl, ha.2.1, ha.2.2⟩
  rw [post_off] at this
  exact this
end
def FnD (P : Program) (f : FuncId) (args : List Value) (w : World) (Post : Value → World → Prop) : Prop :=
  (∀ w', (callFunc f args.toArray).run P w' = .ok (.enter f args.toArray) w') ∧ ∀ w', Same w w' → ∀ u, CallsD P f args.toArray u w' (fun e u' w2 => u' = u ∧ Ret Post e w2)
theorem FnD.enter {P : Program} {f : FuncId} {fn : Func} {c : Code} {args : List Value} {w : World} {Post : Value → World → Prop}
    (hc : ∀ w', (callFunc f args.toArray).run P w' = .ok (.enter f args.toArray) w') (hf : P.funcs[f]? = some fn) (hb : fn.body = some c)
    (h : G ⟨P, ⟨fn.ntmps, []⟩, bodyPost P fn (Ret Post)⟩ (argEnv 0 args) c [] w) : FnD P f args w Post := by
  refine ⟨hc, fun w' hw u => callsD_of_wp hf hb (h w' hw _ ⟨rfl, ?_, ?_⟩)⟩
  · simp; omega
  · intro t v ht
    obtain ⟨_, h2⟩ := argEnv_get args 0 t v ht
    simp only [Nat.sub_zero] at h2
    have hlt : t < args.length := (List.getElem?_eq_some_iff.1 h2).1
    rw [Array.getD_eq_getD_getElem?, Array.getElem?_append_left (by simpa using hlt)]
    simp [h2]
theorem Fn.enterD {P : Program} {f : FuncId} {fn : Func} {c : Code} {args : List Value} {w : World} {Post : Value → World → Prop}
    (hc : ∀ w', (callFunc f args.toArray).run P w' = .ok (.enter f args.toArray) w') (hf : P.funcs[f]? = some fn) (hb : fn.body = some c)
    (h : G ⟨P, ⟨fn.ntmps, []⟩, bodyPostD P fn (Ret Post)⟩ (argEnv 0 args) c [] w) : Fn P f args w Post := by
  refine ⟨hc, fun w' hw => calls_of_wp_defers hf hb (h w' hw _ ⟨rfl, ?_, ?_⟩)⟩
  · simp; omega
  · intro t v ht
    obtain ⟨_, h2⟩ := argEnv_get args 0 t v ht
    simp only [Nat.sub_zero] at h2
    have hlt : t < args.length := (List.getElem?_eq_some_iff.1 h2).1
    rw [Array.getD_eq_getD_getElem?, Array.getElem?_append_left (by simpa using hlt)]
    simp [h2]
inductive ResC (P : Program) (e : Env) (w : World) : List ResultVar → List Value → Prop where
  | nil : ResC P e w [] []
  | tmp {t : Nat} {v : Value} {r : List ResultVar} {vs : List Value} : e.get t = some v → ResC P e w r vs → ResC P e w (.tmp t :: r) (v :: vs)
  | cell {a : Nat} {p : Addr} {v : Value} {T : TypeId} {d : TypeDesc} {r : List ResultVar} {vs : List Value} : e.get a = some (.pointer (some p)) → P.underlying T = some d → aggD d = false → w.cell? p = some v → ResC P e w r vs →
      ResC P e w (.cell a T :: r) (v :: vs)
theorem ResC.run {P : Program} {e : Env} {w w' : World} {n : Sz} {a : Act} (hw : Same w w') (ha : ∀ t v, e.get t = some v → a.tmps.getD t undef = v) (f : ResultVar → Sem Value) (hf : ∀ t, f (.tmp t) = pure (a.tmps.getD t undef)) (hc : ∀ c T, f (.cell c T) = (do loadVar T (← asAddr (a.tmps.getD c undef)))) {l : List ResultVar} {vs : List Value} (h : ResC P e w l vs) :
    (l.mapM f).run P w' = .ok vs w' := by
  induction h with
  | nil => rfl
  | tmp h1 _ ih =>
    have := ha _ _ h1
    simp [List.mapM_cons, hf, this, ih]
  | cell h1 hT hd hcs _ ih =>
    have := ha _ _ h1
    have hl := (hw.cell _).trans hcs
    simp [List.mapM_cons, hc, this, ih, asAddr, loadVar, isAgg_run hT, hd, hl]
theorem results_c {P : Program} {e : Env} {w w' : World} {a : Act} {fn : Func} {vs : List Value} (hw : Same w w') (ha : ∀ t v, e.get t = some v → a.tmps.getD t undef = v) (h : ResC P e w fn.results.toList vs) : (results fn a.tmps).run P w' = .ok (outV vs) w' := by
  unfold results
  rw [Sem.run_bind, Array.mapM_eq_mapM_toList]
  rw [Sem.run_map, h.run (n := ⟨0, []⟩) hw ha _ (fun t => by rfl) (fun c T => by rfl)]
  simp only [Result.andThen_ok]
  match vs with
  | [] => rfl
  | [v] => rfl
  | v :: u :: r => simp [outV]
theorem G.retD {P : Program} {fn : Func} {n : Nat} {Post Mid : Value → World → Prop} {e : Env} {k : List It} {w : World} {f : FuncId} {captured args : List Value}
    (hd : FnD P f (args ++ captured) w Mid) (hp : ∀ r w2, Mid r w2 → ∃ vs, ResC P e w2 fn.results.toList vs ∧ Post (outV vs) w2) : G ⟨P, ⟨n, [⟨.fn (.func f) captured.toArray, args.toArray⟩]⟩, bodyPostD P fn (Ret Post)⟩ e .ret k w := by
  intro w' hw a ha
  refine wp_ret (post_ret k a w' ?_)
  show Leaves P fn a.tmps (Ret Post) a.defers .returning w'
  rw [ha.1]
  refine leaves_cons (f := f) (args := (args ++ captured).toArray) (by intro h; cases h) ?_ ?_
  · have := hd.1 w'
    simpa [invoke] using this
  · refine (hd.2 w' hw .returning).mono ?_
    rintro en u' w3 ⟨rfl, r, w2, hs, rfl, hm⟩
    obtain ⟨vs, hv, hpo⟩ := hp r w2 hm
    show Leaves P fn a.tmps (Ret Post) [] (settle .returning) w3
    exact ⟨_, results_c hs ha.2.2 hv, _, w2, hs, rfl, hpo⟩
end Go.Proofs.YtpfehnopghffjaaGreatDoor
namespace Go.Proofs.YtpfehnopghffjaaGreatDoor
open Go
theorem OwnO.ofOwn {α : Type} {t : Ty α} {Q B : Nat → Prop} {E : TypeId} {w : World} {v : Value} {xs : List α} {b : Nat} (h : Own t Q E w v xs b) (hb : b < w.heap.size → B b) : OwnO t Q E w v xs B := by
  have h' := h
  obtain ⟨hl, ⟨rfl, rfl⟩ | ⟨cap, us, sp, rfl, hc, he, hB, hn⟩⟩ := h'
  · exact .inl ⟨rfl, rfl⟩
  · exact .inr ⟨b, hb hB.lt, hB.lt, h⟩
theorem OwnO.lim {α : Type} {t : Ty α} {Q B : Nat → Prop} {E : TypeId} {w : World} {v : Value} {xs : List α} (h : OwnO t Q E w v xs B) : xs.length < Lim := by
  rcases h with ⟨rfl, _⟩ | ⟨b, _, _, h⟩
  · show 0 < Lim; decide
  · exact h.lim
section
variable {P : Program} {e : Env} {w : World} {x y : Operand} {T T' E : TypeId} {v u : Value} {α : Type} {t : Ty α} {Q : Nat → Prop} {xs ys : List α} {B : Nat → Prop}
theorem DoV.appendLo {i : TypeInfo} {z : Value} {eb : Nat} (hx : look e x = some v) (hv : OwnO t Q E w v xs B) (hlo : ∀ k, w.heap.size ≤ k → B k) (hy : look e y = some u) (hu : (∃ a cap, u = .slice a 0 cap ∧ ys = []) ∨ Holds t Q w u ys)
    (hT : P.underlying T = some (.slice E)) (hT' : P.underlying T' = some (.slice E)) (hi : P.info? E = some i) (hz : i.zero = some z) (hs : i.size = t.size) (hzs : z.cells.size = t.size) (hby : i.bytes = eb) (hlim : (xs.length + ys.length) * eb ≤ 140737488355328) (hlen : xs.length + ys.length < Lim) (hq : ∀ k, Q k → k < w.heap.size → ¬ B k) :
    DoV P e (.call { callee := .builtin .append, args := #[x, y], argTypes := #[T, T'] }) w (fun r w2 => OwnO t Q E w2 r (xs ++ ys) B ∧ Ext B w w2) := by
  have key : ∀ b, B b → Own t Q E w v xs b → DoV P e (.call { callee := .builtin .append, args := #[x, y], argTypes := #[T, T'] }) w (fun r w2 => OwnO t Q E w2 r (xs ++ ys) B ∧ Ext B w w2) := by
    intro b hb hO w' hw ρ hρ o ho
    obtain ⟨r, w2, w3, h1, h2, b', h3, h4, h5⟩ := DoV.append (P := P) hx hO hy hu hT hT' hi hz hs hzs hby hlim hlen (fun k hk hlt he => hq k hk hlt (he ▸ hb)) w' hw ρ hρ o ho
    exact ⟨r, w2, w3, h1, h2, OwnO.ofOwn (h3.mono (fun k hk _ => hk.1)) (fun _ => h5.elim (fun e => by rw [e]; exact hb) (fun e => by rw [e]; exact hlo _ (Nat.le_refl _))), h4.mono (fun k _ hk => by rw [hk]; exact hb)⟩
  rcases hv with ⟨rfl, rfl⟩ | ⟨b, hb, _, hO⟩
  · exact key w.heap.size (hlo _ (Nat.le_refl _)) Own.nil
  · exact key b hb hO
theorem DoV.appendSLo {i : TypeInfo} {z : Value} {bx l : Bs} (hx : look e x = some v) (hv : OwnO tByte Q E w v bx B) (hlo : ∀ k, w.heap.size ≤ k → B k) (hy : look e y = some (str l))
    (hT : P.underlying T = some (.slice E)) (hT' : P.underlying T' = some .string) (hi : P.info? E = some i) (hz : i.zero = some z) (hs : i.size = 1) (hzs : z.cells.size = 1) (hby : i.bytes = 1) (hlen : bx.length + l.length < Lim) (hq : ∀ k, Q k → k < w.heap.size → ¬ B k) :
    DoV P e (.call { callee := .builtin .append, args := #[x, y], argTypes := #[T, T'] }) w (fun r w2 => OwnO tByte Q E w2 r (bx ++ l) B ∧ Ext B w w2) := by
  have key : ∀ b, B b → Own tByte Q E w v bx b → DoV P e (.call { callee := .builtin .append, args := #[x, y], argTypes := #[T, T'] }) w (fun r w2 => OwnO tByte Q E w2 r (bx ++ l) B ∧ Ext B w w2) := by
    intro b hb hO w' hw ρ hρ o ho
    obtain ⟨r, w2, w3, h1, h2, b', h3, h4, h5⟩ := DoV.appendS (P := P) hx hO hy hT hT' hi hz hs hzs hby hlen (fun k hk hlt he => hq k hk hlt (he ▸ hb)) w' hw ρ hρ o ho
    exact ⟨r, w2, w3, h1, h2, OwnO.ofOwn (h3.mono (fun k hk _ => hk.1)) (fun _ => h5.elim (fun e => by rw [e]; exact hb) (fun e => by rw [e]; exact hlo _ (Nat.le_refl _))), h4.mono (fun k _ hk => by rw [hk]; exact hb)⟩
  rcases hv with ⟨rfl, rfl⟩ | ⟨b, hb, _, hO⟩
  · exact key w.heap.size (hlo _ (Nat.le_refl _)) Own.nil
  · exact key b hb hO
end
abbrev Gr (w : World) (v : Value) (l : Bs) (lo : Nat) : Prop := OwnO tByte (fun _ => False) 5 w v l (fun k => lo ≤ k)
theorem Gr.rep {w : World} {v : Value} {l : Bs} {lo : Nat} (h : Gr w v l lo) : tBytes.rep All w v l := OwnO.rep h (fun _ _ _ => trivial) (fun _ h _ => h.elim)
theorem Gr.rep' {w : World} {v : Value} {l : Bs} {lo : Nat} (h : Gr w v l lo) : tBytes.rep (fun k => lo ≤ k ∧ k < w.heap.size) w v l := OwnO.rep h (fun _ h1 h2 => ⟨h1, h2⟩) (fun _ h _ => h.elim)
theorem Gr.low {w : World} {v : Value} {l : Bs} {lo lo' : Nat} (h : Gr w v l lo) (hl : lo' ≤ lo) : Gr w v l lo' := OwnO.mono h (fun _ h _ => h) (fun k h _ => Nat.le_trans hl h)
theorem Gr.ext0 {w w' : World} {v : Value} {l : Bs} {lo : Nat} (h : Gr w v l lo) (hx : Ext (fun _ => False) w w') : Gr w' v l lo := OwnO.ext0 h hx
theorem Gr.holds {w : World} {v : Value} {l : Bs} {P : Nat → Prop} (h : tBytes.rep P w v l) : (∃ a cap, v = .slice a 0 cap ∧ l = []) ∨ Holds tByte (fun _ => False) w v l := Sl.holds h (fun _ _ h => h)
theorem Ev.cut3 {P : Program} {e : Env} {w : World} {x lo hi mx : Operand} {T E : TypeId} {a : Option Addr} {n cap s : Nat} {k k' k2 : IntKind} {l h m : Int} (hx : look e x = some (.slice a n cap)) (hl : look e lo = some (.int k l)) (hh : look e hi = some (.int k' h)) (hm : look e mx = some (.int k2 m)) (hT : P.underlying T = some (.slice E)) (hs : sizeIs P E s)
    (hb : 0 ≤ l ∧ l ≤ h ∧ h ≤ m ∧ m ≤ cap) : Ev P e (.slice T x (some lo) (some hi) (some mx)) w (cutV s a m.toNat l.toNat h.toNat) :=
  fun w' hw ρ hρ op ho => by
    have h1 : 0 ≤ h := by omega
    have h2 : ((h.toNat : Nat) : Int) = h := Int.toNat_of_nonneg h1
    have h3 : 0 ≤ m := by omega
    have h4 : ((m.toNat : Nat) : Int) = m := Int.toNat_of_nonneg h3
    simp [execOp, ho, hρ _ _ hx, hρ _ _ hl, hρ _ _ hh, hρ _ _ hm, Instr.sliceAt, Instr.slice, run_underlying hT, Instr.sliceBounds, run_sliceBound, hb.1, hb.2.1, hb.2.2.1, hb.2.2.2, h1, h2, h3, h4, hs.run, cutV]
theorem Ev.add8 {P : Program} {e : Env} {w : World} {x y : Operand} {T T' : TypeId} {a b : UInt8} (hx : look e x = some (u8 a)) (hy : look e y = some (u8 b)) : Ev P e (.binOp .add T x y T') w (u8 (a + b)) :=
  fun w' _ ρ hρ o ho => by
    have h : IntKind.u8.wrap ((a.toNat : Int) + (b.toNat : Int)) = ((a + b).toNat : Int) := by
      rw [IntKind.wrap_u8, UInt8.toNat_add]
      omega
    simp [execOp, ho, hρ _ _ hx, hρ _ _ hy, eqGuard, binOp, Op.intArith]
    exact h
end Go.Proofs.YtpfehnopghffjaaGreatDoor
namespace Go.Proofs.YtpfehnopghffjaaGreatDoor
open Go
theorem rowsIn_of {P : Program} {row : String} {args : Array Value} {w : World} {R : Value → World → Prop} {l n : Nat} (h : Rows P row args w R) : RowsIn (Fence.wide.inRound l) n P row args w R :=
  fun c cs _ => let ⟨v, w', r, s⟩ := h c cs; ⟨v, w', r, (stepsIn_wide (P := P)).2 s⟩
theorem operIn_of {P : Program} {o : Oper} {a : Act} {w : World} {K K' : Act → World → Prop} {Q : Exit → Act → World → Prop} {l n : Nat} (hnd : ∀ c, o.op ≠ .defer c) (hk : ∀ a w, K a w → K' a w) (h : o.wp P a w K Q) : o.wpIn (Fence.wide.inRound l) n P a w K' Q := by
  refine ⟨fun _ _ => trivial, ?_⟩
  show o.uponIn _ n P a K' Q ((o.semAt (some l) a.eval).run P w)
  rw [Oper.semAt_eq _ _ _ hnd]
  unfold Oper.wp at h
  generalize (execOp a.eval o).run P w = r at h
  cases r with
  | ok x w' =>
    cases x with
    | value v => exact hk _ _ h
    | skip => exact hk _ _ h
    | defer d => exact hk _ _ h
    | enter f args =>
      rw [Oper.upon_enter] at h
      refine ⟨(fun h => by cases h), CallsIn.inRound l (callsIn_wide.2 (Calls.mono h ?_))⟩
      intro e w'' he
      cases e with
      | returned v => exact hk _ _ he
      | panicked c => exact he
      | outgrown => exact he
    | row r args =>
      rw [Oper.upon_row] at h
      exact ⟨(fun h => by cases h), rowsIn_of (Rows.mono h (fun v w'' he => hk _ _ he))⟩
    | _ => exact (h : False).elim
  | halt x w' => cases x <;> simp only [Oper.upon] at h <;> simp only [Oper.uponIn] <;> exact h
theorem opsIn_of {P : Program} {ops : Array Oper} {Q : Exit → Act → World → Prop} {l n : Nat} (hno : ¬ LetsOut Q) (hnd : ∀ o ∈ ops.toList, ∀ c, o.op ≠ .defer c) :
    ∀ (is : List Nat) (a : Act) (w : World), wpOps P ops Q is a w → wpOpsIn (Fence.wide.inRound l) n P ops Q is a w
  | [], _, _, h => h
  | i :: rest, a, w, h => by
    simp only [wpOps] at h
    simp only [wpOpsIn]
    cases ho : ops[i]? with
    | none => simp only [ho] at h; exact opsIn_of hno hnd rest a w h
    | some o =>
      simp only [ho] at h
      have hm : o ∈ ops.toList := by
        have := Array.getElem?_toList (xs := ops) (i := i)
        rw [ho] at this
        exact List.mem_of_getElem? this
      by_cases hw : Region.wanted o (yielded ops a.tmps) = true
      · simp only [hw, if_true] at h ⊢
        rcases h with h | h
        · exact operIn_of (hnd o hm) (opsIn_of hno hnd rest) h
        · exact absurd h.2 hno
      · simp only [hw, Bool.false_eq_true, if_false] at h ⊢
        exact ⟨fun _ _ => trivial, opsIn_of hno hnd rest _ w h⟩
def noDefer (l : List Oper) : Bool := l.all (fun o => match o.op with | .defer _ => false | _ => true)
theorem noDefer_of {l : List Oper} (h : noDefer l = true) : ∀ o ∈ l, ∀ c, o.op ≠ .defer c := by
  intro o ho c he
  have := List.all_eq_true.1 h o ho
  rw [he] at this
  cases this
section
variable {F : Fr} {e : Env} {w : World}
theorem roundRegion {id l n : Nat} {ops : List Oper} (hno : ¬ LetsOut F.R) (hd : noDefer ops = true) (h : O F e ops ops [] w) {w' : World} (hw : Same w w') {a : Act} (ha : Ag F.z e a) : (Code.region id ops.toArray false).wpIn (Fence.wide.inRound l) n F.P F.R a w' := by
  have h1 := h w' hw a ha
  refine wpIn_region (opsIn_of hno (by simpa using noDefer_of hd) _ _ _ ?_)
  rw [List.range_eq_range', ← Array.length_toList, wpOps_eq_wpList ops.toArray.toList 0 (by simp)]
  have h2 : wpList F.P ops.toArray F.R ops a w' := h1
  simpa using h2
theorem roundMix {id l n : Nat} {ops : List Oper} (S : Nat → Prop) (al : List Nat) (hm : F.P.follows .mixedOrders = true) (hB : Region.lexB .any ops.toArray = true) (hA : actB .any ops.toArray (fun j => al.contains j) = true)
    (hno : ¬ LetsOut F.R) (hd : noDefer ops = true) (h : M F S w al e ops 0 ops [] w) {w' : World} (hw : Same w w') {a : Act} (ha : Ag F.z e a) : (Code.region id ops.toArray true).wpIn (Fence.wide.inRound l) n F.P F.R a w' := by
  refine wpIn_region_draw fun t => opsIn_of hno (by simpa using noDefer_of hd) _ _ _ ?_
  simp only [Region.schedule, hm, Bool.true_or, if_true]
  refine wpAny_sound _ t _ a _ ?_
  simp only [Region.lexB, Bool.and_eq_true] at hB
  refine wpAny_of_M (C := Ext S w) (act := fun j => al.contains j) (Q := fun a' w' => F.R .normal a' w') (fun _ _ h => h) _ _ _ _ ?_
  have := wpAnyM_lex (C := Ext S w) (md := .any) hB.1 hA ops.toArray.toList 0 (Array.replicate ops.toArray.size false) a _ (by simp) (.inl (.same (hw.trans (same_draw w')))) ⟨by simp, fun j oj hj hl => by rw [getD_replicate_false] at hl; cases hl⟩ (by simpa using hB.2) (show wpMix F.P .any ops.toArray (Ext S w) (fun j => al.contains j) (fun a' w2 => F.R .normal a' w2) ops.toArray.toList 0 a w'.drew from h (.refl _) _ (hw.trans (same_draw w')) a ha)
  simpa using this
end
def OI (F : Fr) (e : Env) (all ops : List Oper) (k : List It) (w : World) : Prop := ∀ w', Same w w' → ∀ a, Ag F.z e a → wpListIn Fence.wide 0 F.P all.toArray (post F k) ops a w'
section
variable {F : Fr} {e : Env} {k : List It} {w : World} {all rest : List Oper} {d : Nat} {op : Op} {ty : TypeId} {pos : String} {af : Array Edge} {g : Option (Nat × Bool)}
theorem G.regionI {id : Nat} {l : List Oper} (h : OI F e l l k w) : G F e (.region id l.toArray false) k w := fun w' hw a ha => wpIn_wide.1 (wpIn_region_lit (h w' hw a ha))
theorem OI.nil (h : A F e k w) : OI F e all [] k w := fun w' hw a ha => h w' hw a ha
theorem OI.p {v : Value} (hd : Nat.blt d F.n = true) (hg : gd e all g = some true) (h : Ev F.P e op w v) (next : OI F ((d, v) :: e) all rest k w) : OI F e all (⟨some d, op, ty, pos, af, g⟩ :: rest) k w := by
  intro w' hw a ha
  refine wpListIn_step fun K hK => ?_
  rw [if_pos (gd_wanted ha hg)]
  refine ⟨fun _ _ => trivial, ?_⟩
  show Oper.uponIn _ 0 _ _ a _ _ ((Oper.semAt none a.eval _).run F.P w')
  rw [Oper.semAt_none, h w' (.same hw) a.eval (fun x u hx => ha.ev hx) _ rfl]
  exact hK _ _ (next w' hw _ (ha.put hd v))
theorem OI.yield {c : Operand} {l : Nat} {xs : List Operand} {ats : Array TypeId} {vs : List Value} {Post : Bool → World → Prop} (hd : Nat.blt d F.n = true) (hg : gd e all g = some true)
    (hf : look e c = some (.func (.yield l) #[] #[])) (hx : xs.mapM (look e) = some vs)
    (hc : ∀ w', Same w w' → YieldAt Fence.wide 0 F.P l vs.toArray w' (fun en w3 => ∃ b w2, Same w2 w3 ∧ en = .returned (.bool b) ∧ Post b w2))
    (next : ∀ b w2, Post b w2 → OI F ((d, .bool b) :: e) all rest k w2) :
    OI F e all (⟨some d, .call { callee := .value c, args := xs.toArray, argTypes := ats }, ty, pos, af, g⟩ :: rest) k w := by
  intro w' hw a ha
  refine wpListIn_step fun K hK => ?_
  rw [if_pos (gd_wanted ha hg)]
  refine ⟨fun _ _ => trivial, ?_⟩
  show Oper.uponIn _ 0 _ _ a _ _ ((Oper.semAt none a.eval _).run F.P w')
  rw [Oper.semAt_none]
  obtain ⟨fn, tmps, asg, body, hy, hR⟩ := hc w' hw
  have h1 := ha.ev hf
  have h2 := look_args (fun x u hx => ha.ev hx) xs vs hx
  have hr : (execOp a.eval ⟨some d, .call { callee := .value c, args := xs.toArray, argTypes := ats }, ty, pos, af, g⟩).run F.P w' = (Instr.yield l vs.toArray).run F.P w' := by
    simp [execOp, resolve, Deferred.ofValue, h1, h2, invoke, Sem.run_bind]
  rw [hr, hy, Oper.uponIn_round]
  refine ⟨(fun h => by cases h), hR.mono ?_⟩
  rintro en w3 ⟨b, w2, hs, rfl, hp⟩
  exact hK _ _ (next b w2 hp w3 hs _ (ha.put hd (.bool b)))
end
def recOf (fn : FuncId) (tmps : Array Value) (ps : Array Tmp) (assign body : Code) (D : Nat) (st : LoopState) : Obj := .loop { state := st, pending := none, fn, tmps, params := ps, assign, body, defers := D }
def Between (fn : FuncId) (tmps : Array Value) (ps : Array Tmp) (assign body : Code) (D : Nat) (J : World → Prop) (W : World) : Prop :=
  ∃ W0, Same W0 W ∧ W0.heap[D + 1]? = some (recOf fn tmps ps assign body D .ready) ∧ W0.heap[D]? = some (.deferred (some [])) ∧ J W0
theorem Same.putObj {w w' : World} (h : Same w w') (r : Nat) (o : Obj) : Same (w.putObj r o) (w'.putObj r o) := ⟨by simp [World.putObj, h.heap], h.os, h.tape, h.output⟩
theorem Same.at {w w' : World} (h : Same w w') (k : Nat) : w'.heap[k]? = w.heap[k]? := by rw [h.heap]
theorem Ext.putObj {S : Nat → Prop} (w : World) {r : Nat} (hr : S r) (o : Obj) : Ext S w (w.putObj r o) :=
  ⟨rfl, rfl, rfl, by simp, fun k hk hs => World.putObj_heap_other (fun e => hs (e ▸ hr))⟩
theorem yield_round {F : Fence} {P : Program} {fn : FuncId} {tmps : Array Value} {ps : Array Tmp} {assign body : Code} {D : Nat} {args : Array Value} {J J' : World → Prop} {W : World}
    (hF : F = Fence.wide) (hb : Between fn tmps ps assign body D J W) (hs : args.size = ps.size)
    (hbody : ∀ W0 W', Same W0 W' → W0.heap[D + 1]? = some (recOf fn tmps ps assign body D .ready) → W0.heap[D]? = some (.deferred (some [])) → J W0 →
      assign.wpIn (Fence.wide.inRound (D + 1)) 0 P (Exit.then (fun a₁ w₁ => Same W0 w₁ ∧ ∀ W2, Same (W0.putObj (D + 1) (recOf fn tmps ps assign body D .busy)) W2 →
        body.wpIn (Fence.wide.inRound (D + 1)) 0 P (fun ex _ w3 => ex = .normal ∧ ∃ W3, Same W3 w3 ∧ W3.heap[D + 1]? = some (recOf fn tmps ps assign body D .busy) ∧ W3.heap[D]? = some (.deferred (some [])) ∧ J' (W3.putObj (D + 1) (recOf fn tmps ps assign body D .ready))) a₁ W2) (fun _ _ _ => False))
        { tmps := (ps.zip args).foldl (fun t (p, v) => t.setIfInBounds p v) tmps, defers := [] } W') :
    YieldAt Fence.wide 0 P (D + 1) args W (fun en w3 => en = .returned (.bool true) ∧ Between fn tmps ps assign body D J' w3) := by
  obtain ⟨W0, hW, hl, hk, hJ⟩ := hb
  have hl' : W.heap[D + 1]? = some (recOf fn tmps ps assign body D .ready) := (hW.at _).trans hl
  refine ⟨fn, _, assign, body, run_yield (P := P) hl' hs, roundIn_of_wpIn trivial (wpIn_mono (hbody W0 W hW hl hk hJ) ?_)⟩
  rintro ex a₁ w₁ hq
  cases ex with
  | normal =>
    obtain ⟨hs1, hq⟩ := hq
    refine ⟨_, run_beginRound ((hs1.at _).trans hl) rfl, wpIn_mono (hq _ (hs1.putObj _ _)) ?_⟩
    rintro ex a3 w3 ⟨rfl, W3, hs3, hl3, hk3, hJ3⟩
    have hl3' : w3.heap[D + 1]? = some (recOf fn tmps ps assign body D .busy) := (hs3.at _).trans hl3
    refine ⟨_, _, run_endRound none hl3', rfl, _, hs3.putObj _ _, World.putObj_heap_same (Array.getElem?_eq_some_iff.1 hl3).1, (World.putObj_heap_other (by omega)).trans hk3, hJ3⟩
  | exit _ => exact hq.elim
  | goto _ => exact hq.elim
  | ret => exact hq.elim
  | panic _ => exact hq.elim
  | outgrown => exact hq.elim
theorem Between.blk {fn : FuncId} {tmps : Array Value} {ps : Array Tmp} {assign body : Code} {D : Nat} {J : World → Prop} {W : World} {b : Nat} {E : TypeId} {cs : List Value} (h : Between fn tmps ps assign body D J W) (hJ : ∀ W, J W → Blk W b E cs) : Blk W b E cs := by
  obtain ⟨W0, hs, _, _, h0⟩ := h
  exact (hJ W0 h0).keep (by rw [hs.heap])
theorem Between.same {fn : FuncId} {tmps : Array Value} {ps : Array Tmp} {assign body : Code} {D : Nat} {J : World → Prop} {W W' : World} (h : Between fn tmps ps assign body D J W) (hs : Same W W') : Between fn tmps ps assign body D J W' := by
  obtain ⟨W0, hs0, h1, h2, h3⟩ := h
  exact ⟨W0, hs0.trans hs, h1, h2, h3⟩
theorem yield_mix {P : Program} {n D p : Nat} {e : Env} {fn : FuncId} {tmps : Array Value} {v : Value} {i1 i2 bid : Nat} {ops1 ops2 : List Oper} {J J' : World → Prop} {W : World} (hag : Ag ⟨n, []⟩ e ⟨tmps, []⟩) (hp : Nat.blt p n = true)
    (hb : Between fn tmps #[p] (.region i1 ops1.toArray false) (.block bid (.region i2 ops2.toArray true)) D J W)
    (hm : P.follows .mixedOrders = true) (al : List Nat) (hB : Region.lexB .any ops2.toArray = true) (hA : actB .any ops2.toArray (fun j => al.contains j) = true) (hd1 : noDefer ops1 = true) (hd2 : noDefer ops2 = true) (S : World → Nat → Prop) {e1 : Env}
    (h1 : ∀ W0 R, A ⟨P, ⟨n, []⟩, R⟩ e1 [] W0 → O ⟨P, ⟨n, []⟩, R⟩ ((p, v) :: e) ops1 ops1 [] W0)
    (h2 : ∀ W0 W1 R, W0.heap[D + 1]? = some (recOf fn tmps #[p] (.region i1 ops1.toArray false) (.block bid (.region i2 ops2.toArray true)) D .ready) → W0.heap[D]? = some (.deferred (some [])) → J W0 → W1 = W0.putObj (D + 1) (recOf fn tmps #[p] (.region i1 ops1.toArray false) (.block bid (.region i2 ops2.toArray true)) D .busy) →
      W1.heap[D + 1]? = some (recOf fn tmps #[p] (.region i1 ops1.toArray false) (.block bid (.region i2 ops2.toArray true)) D .busy) → W1.heap[D]? = some (.deferred (some [])) →
      (∀ e2 W3, W3.heap[D + 1]? = some (recOf fn tmps #[p] (.region i1 ops1.toArray false) (.block bid (.region i2 ops2.toArray true)) D .busy) → W3.heap[D]? = some (.deferred (some [])) → J' (W3.putObj (D + 1) (recOf fn tmps #[p] (.region i1 ops1.toArray false) (.block bid (.region i2 ops2.toArray true)) D .ready)) → A ⟨P, ⟨n, []⟩, R⟩ e2 [] W3) →
      M ⟨P, ⟨n, []⟩, R⟩ (S W1) W1 al e1 ops2 0 ops2 [] W1) :
    YieldAt Fence.wide 0 P (D + 1) #[v] W (fun en w3 => en = .returned (.bool true) ∧ Between fn tmps #[p] (.region i1 ops1.toArray false) (.block bid (.region i2 ops2.toArray true)) D J' w3) := by
  refine yield_round rfl hb rfl ?_
  intro W0 W' hs hl hk hJ
  have hag2 : Ag ⟨n, []⟩ ((p, v) :: e) ⟨(#[p].zip #[v]).foldl (fun t (q : Nat × Value) => t.setIfInBounds q.1 q.2) tmps, []⟩ := by
    have := hag.put hp v
    simpa [Act.put] using this
  refine roundRegion (F := ⟨P, ⟨n, []⟩, _⟩) (e := (p, v) :: e) (w := W0) ?_ hd1 (h1 W0 _ ?_) hs hag2
  · rintro ⟨a, w, h⟩; exact h
  intro w1 hs1 a1 ha1
  refine ⟨hs1, fun W2 hs2 => ?_⟩
  have hlt : D + 1 < W0.heap.size := (Array.getElem?_eq_some_iff.1 hl).1
  refine wpIn_block (roundMix (F := ⟨P, ⟨n, []⟩, _⟩) (e := e1) (w := W0.putObj (D + 1) (recOf fn tmps #[p] (.region i1 ops1.toArray false) (.block bid (.region i2 ops2.toArray true)) D .busy)) (S _) al hm hB hA ?_ hd2 (h2 W0 _ _ hl hk hJ rfl (World.putObj_heap_same hlt) ((World.putObj_heap_other (by omega)).trans hk) ?_) hs2 ha1)
  · rintro ⟨a, w, h⟩
    have h : (Exit.outgrown : Exit) = .normal ∧ _ := h
    cases h.1
  · intro e2 W3 hl3 hk3 hJ3 w3 hs3 a3 ha3
    exact ⟨rfl, W3, hs3, hl3, hk3, hJ3⟩
theorem G.rangeFunc {F : Fr} {e : Env} {k : List It} {w : World} {gf : Nat} {lb : List Value} {c : Operand} {ps : Array Tmp} {assign body : Code} {Jn : World → Prop}
    (hg : look e c = some (.func (.func gf) #[] lb.toArray)) (eg : ∀ args w, (callFunc gf args).run F.P w = .ok (.enter gf args) w)
    (hc : ∀ fn tmps, Ag F.z e ⟨tmps, F.z.D⟩ → ∀ w', Same ((w.alloc (.deferred (some []))).alloc (recOf fn tmps ps assign body w.heap.size .ready)) w' →
      Calls F.P gf (.func (.yield (w.heap.size + 1)) #[] #[] :: lb).toArray w' (fun en w3 => (∃ v, en = .returned v) ∧ Between fn tmps ps assign body w.heap.size Jn w3))
    (next : ∀ fn tmps W, Jn W → W.heap[w.heap.size]? = some (.deferred (some [])) → w.heap.size + 1 < W.heap.size →
      A (F.off ⟨.collected w.heap.size, #[]⟩) e k (W.putObj (w.heap.size + 1) (recOf fn tmps ps assign body w.heap.size .exhausted))) :
    G F e (.rangeFunc c ps assign body) k w := by
  intro w' hw a ha
  refine (wpIn_wide (n := 0)).1 (wpIn_rangeFunc ?_)
  intro fn _
  have hsz : w'.heap.size = w.heap.size := by rw [hw.heap]
  refine ⟨w'.heap.size + 1, _, ((w'.alloc (.deferred (some []))).alloc (recOf fn a.tmps ps assign body w'.heap.size .ready)), ⟨.fn (.func gf) lb.toArray, #[.func (.yield (w'.heap.size + 1)) #[] #[]]⟩, ((w'.alloc (.deferred (some []))).alloc (recOf fn a.tmps ps assign body w'.heap.size .ready)), gf, (.func (.yield (w'.heap.size + 1)) #[] #[] :: lb).toArray, ((w'.alloc (.deferred (some []))).alloc (recOf fn a.tmps ps assign body w'.heap.size .ready)), run_enterLoop_outer _ _ _ _ _, ?_, fun _ _ => trivial, ?_, (fun h => by cases h), ?_⟩
  · have h1 := ha.ev hg
    simp only [resolve, rangeCall, h1, Deferred.ofValue]
    simp [Act.eval]
  · have := eg (.func (.yield (w'.heap.size + 1)) #[] #[] :: lb).toArray
    simpa [invoke] using this _
  · rw [hsz]
    refine callsIn_wide.2 ((hc fn a.tmps ⟨rfl, ha.2.1, ha.2.2⟩ _ ?_).mono ?_)
    · exact (hw.alloc _).alloc _
    · rintro en w3 ⟨⟨v, rfl⟩, W0, hs, hl, hk, hJ⟩
      have hl' : w3.heap[w.heap.size + 1]? = some (recOf fn a.tmps ps assign body w.heap.size .ready) := (hs.at _).trans hl
      refine ⟨none, _, run_endLoop hl' (by intro h; cases h), ?_⟩
      have := next fn a.tmps W0 hJ hk (Array.getElem?_eq_some_iff.1 hl).1 _ (hs.putObj _ _) { a with defers := ⟨.collected w.heap.size, #[]⟩ :: a.defers } ⟨by show _ :: a.defers = _; rw [ha.1]; rfl, ha.2.1, ha.2.2⟩
      rw [post_off] at this
      exact this
def markPost (P : Program) (fn : Func) (Post : Value → World → Prop) : Exit → Act → World → Prop := bodyPostM Fence.wide 0 P fn (Ret Post)
theorem Fn.enterM {P : Program} {f : FuncId} {fn : Func} {c : Code} {args : List Value} {w : World} {Post : Value → World → Prop}
    (hc : ∀ w', (callFunc f args.toArray).run P w' = .ok (.enter f args.toArray) w') (hf : P.funcs[f]? = some fn) (hb : fn.body = some c)
    (h : G ⟨P, ⟨fn.ntmps, []⟩, markPost P fn Post⟩ (argEnv 0 args) c [] w) : Fn P f args w Post := by
  refine ⟨hc, fun w' hw => (callsIn_wide (n := 0)).1 (callsIn_of_wp_marks hf hb trivial ((wpIn_wide (n := 0)).2 (h w' hw _ ⟨rfl, ?_, ?_⟩)))⟩
  · simp; omega
  · intro t v ht
    obtain ⟨_, h2⟩ := argEnv_get args 0 t v ht
    simp only [Nat.sub_zero] at h2
    have hlt : t < args.length := (List.getElem?_eq_some_iff.1 h2).1
    rw [Array.getD_eq_getD_getElem?, Array.getElem?_append_left (by simpa using hlt)]
    simp [h2]
theorem G.retM0 {P : Program} {fn : Func} {n : Nat} {Post : Value → World → Prop} {e : Env} {k : List It} {w : World} {vs : List Value}
    (hv : ResEv P e w fn.results.toList vs) (hp : Post (outV vs) w) : G ⟨P, ⟨n, []⟩, markPost P fn Post⟩ e .ret k w := by
  intro w' hw a ha
  refine wp_ret (post_ret k a w' ?_)
  show LeavesInM Fence.wide 0 P fn a.tmps (Ret Post) a.defers .returning w'
  rw [ha.1]
  exact ⟨_, results_ev hw ha hv, _, w, hw, rfl, hp⟩
theorem G.retM {P : Program} {fn : Func} {n D : Nat} {Post : Value → World → Prop} {e : Env} {k : List It} {w : World} {vs : List Value}
    (hD : w.heap[D]? = some (.deferred (some []))) (hv : ResEv P e (w.putObj D (.deferred none)) fn.results.toList vs) (hp : Post (outV vs) (w.putObj D (.deferred none))) : G ⟨P, ⟨n, [⟨.collected D, #[]⟩]⟩, markPost P fn Post⟩ e .ret k w := by
  intro w' hw a ha
  refine wp_ret (post_ret k a w' ?_)
  show LeavesInM Fence.wide 0 P fn a.tmps (Ret Post) a.defers .returning w'
  rw [ha.1]
  refine ⟨(fun h => by cases h), .inl ⟨D, _, rfl, run_takeDeferred ((hw.at D).trans hD), ?_⟩⟩
  exact ⟨_, results_ev (hw.putObj D _) ha hv, _, _, hw.putObj D _, rfl, hp⟩
end Go.Proofs.YtpfehnopghffjaaGreatDoor
namespace Go.Proofs.YtpfehnopghffjaaGreatDoor
open Go
section
variable {P : Program} {e : Env} {w : World} {x y : Operand} {T T' tp : TypeId} {v u : Value}
def ifaceD : TypeDesc → Bool
  | .interface _ => true
  | _ => false
theorem Ev.mkIface {d : TypeDesc} (hx : look e x = some v) (hT : P.underlying T = some d) (hd : ifaceD d = false) : Ev P e (.makeInterface T x) w (.iface T v) :=
  fun w' _ ρ hρ o ho => by
    have h1 := hρ _ _ hx
    cases d <;> first | (cases hd; done) | simp [execOp, ho, h1, Instr.makeInterface, run_underlying hT]
theorem run_equal_nil {ms : Array (String × TypeId)} (hT : P.underlying T = some (.interface ms)) (w : World) : (Op.equal T .nilIface .nilIface).run P w = .ok true w := by
  have h : ∀ d : Nat, (Op.equalIn (d + 1) T .nilIface .nilIface).run P w = .ok true w := fun d => by simp [Op.equalIn, run_underlying hT]
  simp [Op.equal, Op.maxDepth, h 9999]
theorem run_equal_iface_nil {ms : Array (String × TypeId)} (hT : P.underlying T = some (.interface ms)) (w : World) : (Op.equal T (.iface tp u) .nilIface).run P w = .ok false w := by
  have h : ∀ d : Nat, (Op.equalIn (d + 1) T (.iface tp u) .nilIface).run P w = .ok false w := fun d => by simp [Op.equalIn, run_underlying hT]
  simp [Op.equal, Op.maxDepth, h 9999]
theorem Ev.neNilN {ms : Array (String × TypeId)} (hx : look e x = some .nilIface) (hT : P.underlying T = some (.interface ms)) : Ev P e (.binOp .neq T x (.const .nilIface) T') w (.bool false) :=
  fun w' _ ρ hρ o ho => by
    have h1 := hρ _ _ hx
    have h2 : ρ (.const .nilIface) = .nilIface := hρ _ _ rfl
    simp [execOp, ho, h1, h2, eqGuard, binOp, run_equal_nil hT, Sem.run_bind]
theorem Ev.neNilS {ms : Array (String × TypeId)} (hx : look e x = some (.iface tp u)) (hT : P.underlying T = some (.interface ms)) : Ev P e (.binOp .neq T x (.const .nilIface) T') w (.bool true) :=
  fun w' _ ρ hρ o ho => by
    have h1 := hρ _ _ hx
    have h2 : ρ (.const .nilIface) = .nilIface := hρ _ _ rfl
    simp [execOp, ho, h1, h2, eqGuard, binOp, run_equal_iface_nil hT, Sem.run_bind]
end
end Go.Proofs.YtpfehnopghffjaaGreatDoor
