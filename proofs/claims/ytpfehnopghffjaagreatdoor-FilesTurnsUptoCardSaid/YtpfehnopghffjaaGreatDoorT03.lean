import Derived.Test.YtpfehnopghffjaaGreatDoorT02
import Derived.Test.YtpfehnopghffjaaGreatDoorProg
set_option linter.unusedVariables false
set_option maxRecDepth 20000
set_option linter.unusedSimpArgs false
namespace Go.Proofs.YtpfehnopghffjaaGreatDoor
open Go
theorem Sl.cutE {α : Type} {t : Ty α} {P : Nat → Prop} {w : World} {xs : List α} {a : Option Addr} {n cap : Nat} (h : (Sl t).rep P w (.slice a n cap) xs) (l k : Nat) (h1 : l ≤ k) (h2 : k ≤ n) :
  ∃ a' cap', cutV t.size a cap l k = .slice a' (k - l) cap' ∧ k - l ≤ cap' ∧ (Sl t).rep P w (.slice a' (k - l) cap') ((xs.take k).drop l) := by
 have hr := Sl.cut h l k h1 h2
 obtain ⟨a', cap', hv, hc⟩ := Sl.val hr
 have hn : xs.length = n := by obtain ⟨_, a0, c0, e, _⟩ := h; cases e; rfl
 have hlen : ((xs.take k).drop l).length = k - l := by simp; omega
 rw [hlen] at hv hc
 rw [hv] at hr
 exact ⟨a', cap', hv, hc, hr⟩
theorem flat_set {n : Nat} : ∀ {us : List Value} (i j : Nat) (u v' : Value), (∀ x ∈ us, x.cells.size = n) → j < n → (∀ x, us[i]? = some x → v'.cells.toList = x.cells.toList.set j u) → (flat us).set (i * n + j) u = flat (us.set i v')
 | [], i, j, u, v', _, _, _ => by simp [flat]
 | x :: us, 0, j, u, v', h, hj, hv => by
  have hx : x.cells.toList.length = n := by rw [Array.length_toList, h x (by simp)]
  rw [List.set_cons_zero, flat_cons, flat_cons, Nat.zero_mul, Nat.zero_add, List.set_append_left _ _ (by omega), hv x (by simp)]
 | x :: us, i + 1, j, u, v', h, hj, hv => by
  have hx : x.cells.toList.length = n := by rw [Array.length_toList, h x (by simp)]
  have hle : x.cells.toList.length ≤ (i + 1) * n + j := by rw [hx, Nat.add_mul]; omega
  rw [List.set_cons_succ, flat_cons, flat_cons, List.set_append_right _ _ hle, ← flat_set i j u v' (fun y hy => h y (by simp [hy])) hj (fun y hy => hv y (by simpa using hy))]
  congr 2
  rw [hx, Nat.add_mul]
  omega
def OwnO {α : Type} (t : Ty α) (Q : Nat → Prop) (E : TypeId) (w : World) (v : Value) (xs : List α) (B : Nat → Prop) : Prop :=
 (xs = [] ∧ v = .slice none 0 0) ∨ ∃ b, B b ∧ b < w.heap.size ∧ Own t Q E w v xs b
section
variable {α : Type} {t : Ty α} {Q Q' : Nat → Prop} {E : TypeId} {w w' : World} {v : Value} {xs ys : List α} {B B' : Nat → Prop}
theorem OwnO.nil : OwnO t Q E w (.slice none 0 0) [] B := .inl ⟨rfl, rfl⟩
theorem OwnO.of {b : Nat} (h : Own t Q E w v xs b) (hb : B b) : OwnO t Q E w v xs B := by
 have h' := h
 obtain ⟨hl, ⟨rfl, rfl⟩ | ⟨cap, us, sp, rfl, hc, he, hB, hn⟩⟩ := h'
 ·exact .inl ⟨rfl, rfl⟩
 ·exact .inr ⟨b, hb, hB.lt, h⟩
theorem OwnO.val (h : OwnO t Q E w v xs B) : ∃ a cap, v = .slice a xs.length cap ∧ xs.length ≤ cap := by
 rcases h with ⟨rfl, rfl⟩ | ⟨b, _, _, h⟩
 ·exact ⟨none, 0, rfl, Nat.le_refl _⟩
 ·exact h.val
theorem OwnO.mono (h : OwnO t Q E w v xs B) (hq : ∀ k, Q k → k < w.heap.size → Q' k) (hb : ∀ k, B k → k < w.heap.size → B' k) : OwnO t Q' E w v xs B' := by
 rcases h with h | ⟨b, h1, h2, h3⟩
 ·exact .inl h
 ·exact .inr ⟨b, hb b h1 h2, h2, h3.mono hq⟩
theorem OwnO.ext {S : Nat → Prop} (h : OwnO t Q E w v xs B) (hx : Ext S w w') (hb : ∀ k, B k → k < w.heap.size → ¬ S k) (hq : ∀ k, Q k → k < w.heap.size → ¬ S k) : OwnO t Q E w' v xs B := by
 rcases h with h | ⟨b, h1, h2, h3⟩
 ·exact .inl h
 ·exact .inr ⟨b, h1, Nat.lt_of_lt_of_le h2 hx.size, h3.ext hx (hb b h1 h2) hq⟩
theorem OwnO.ext0 (h : OwnO t Q E w v xs B) (hx : Ext (fun _ => False) w w') : OwnO t Q E w' v xs B := h.ext hx (fun _ _ _ x => x) (fun _ _ _ x => x)
theorem OwnO.rep {R : Nat → Prop} (h : OwnO t Q E w v xs B) (hb : ∀ k, B k → k < w.heap.size → R k) (hq : ∀ k, Q k → k < w.heap.size → R k) : (Sl t).rep R w v xs := by
 rcases h with ⟨rfl, rfl⟩ | ⟨b, h1, h2, h3⟩
 ·exact Sl.nil
 ·exact h3.rep (hb b h1 h2) hq
end
theorem Ev.makeFunc {P : Program} {e : Env} {w : World} {fn : Go.Fn} {xs ys : List Operand} {us vs : List Value} (hx : xs.mapM (look e) = some us) (hy : ys.mapM (look e) = some vs) : Ev P e (.makeFunc fn xs.toArray ys.toArray) w (.func fn us.toArray vs.toArray) :=
 fun w' _ ρ hρ o ho => by
  have h1 := look_args hρ xs us hx
  have h2 := look_args hρ ys vs hy
  simp [execOp, ho, Instr.makeFunc, h1, h2]
end Go.Proofs.YtpfehnopghffjaaGreatDoor
namespace Go.Proofs.YtpfehnopghffjaaGreatDoor
open Go
section
variable {P : Program} {ops : Array Oper} {md : Region.Mode} {C : World → Prop} {act : Nat → Bool}
def okG (act : Nat → Bool) (o : Option Nat) (j : Nat) : Prop := act j = true → o = none ∨ o = some j
def nx (act : Nat → Bool) (o : Option Nat) (j : Nat) : Option Nat := if act j then none else o
theorem nx_comm (o : Option Nat) (i j : Nat) : nx act (nx act o i) j = nx act (nx act o j) i := by
 unfold nx
 cases act i <;> cases act j <;> rfl
def wpAnyG (P : Program) (md : Region.Mode) (ops : Array Oper) (C : World → Prop) (act : Nat → Bool) (Q : Act → World → Prop) : Nat → Option Nat → Array Bool → Act → World → Prop
 | 0, _, listed, a, w => Region.ready md ops listed = [] ∧ Q a w
 | fuel + 1, o, listed, a, w =>
  (Region.ready md ops listed = [] → Q a w) ∧
  ∀ i ∈ Region.ready md ops listed, okG act o i → mOp P md ops C act i (wpAnyG P md ops C act Q fuel (nx act o i) (listed.setIfInBounds i true)) a w
theorem wpAnyM_of_G {Q : Act → World → Prop} : ∀ (fuel : Nat) (listed : Array Bool) (a : Act) (w : World), wpAnyG P md ops C act Q fuel none listed a w → wpAnyM P md ops C act Q fuel listed a w
 | 0, _, _, _, h => h
 | fuel + 1, listed, a, w, h => by
  refine ⟨h.1, fun i hi => mOp_mono (fun a' w' h' => wpAnyM_of_G fuel _ _ _ ?_) (h.2 i hi (fun _ => .inl rfl))⟩
  have : nx act none i = none := by unfold nx; split <;> rfl
  rwa [this] at h'
theorem mG_first {Q : Act → World → Prop} {i : Nat} {oi : Oper} (hi : ops[i]? = some oi) (hsel : ∀ (j : Nat) (o : Oper) cs b, ops[j]? = some o → o.op ≠ .select cs b) 
  :
  ∀ (fuel : Nat) (o : Option Nat) (listed : Array Bool) (a : Act) (w : World), (act i = true → o = some i) → C w ∨ Lin md ops act listed → Closed md ops listed →
   (∀ j oj, ops[j]? = some oj → j ≠ i → listed.getD j true = false → (∀ e ∈ oj.after, Region.binds md e = true → e.on ≠ i) → oi.apart ops oj = true) →
   i ∈ Region.ready md ops listed →
   mOp P md ops C act i (wpAnyG P md ops C act Q fuel (nx act o i) (listed.setIfInBounds i true)) a w → wpAnyG P md ops C act Q (fuel + 1) o listed a w := by
 intro fuel
 induction fuel with
 | zero =>
  intro o listed a w hact hCw hcl _ hr H
  refine ⟨fun h => (by rw [h] at hr; cases hr), fun j hj hok => ?_⟩
  by_cases hji : j = i
  ·subst hji; exact H
  ·exfalso
   have hex : ∃ a' w', wpAnyG P md ops C act Q 0 (nx act o i) (listed.setIfInBounds i true) a' w' := by
    unfold mOp at H
    simp only [hi] at H
    split at H
    ·split at H
     ·obtain ⟨v, w', _, h⟩ := H.some; exact ⟨_, _, h⟩
     ·obtain ⟨v, _, h⟩ := H; exact ⟨_, _, h⟩
    ·exact ⟨_, _, H⟩
   obtain ⟨a', w', h⟩ := hex
   have := ready_mono hj hji
   rw [h.1] at this
   cases this
 | succ fuel ih =>
  intro o listed a w hact hCw hcl hfree hr H
  refine ⟨fun h => (by rw [h] at hr; cases hr), fun j hj hok => ?_⟩
  by_cases hji : j = i
  ·subst hji; exact H
  ·have hor : C w ∨ freeB ops act j = true ∨ freeB ops act i = true := hCw.imp id (lin_two hcl hr hj hji)
   have hnfj : finB md ops act j = true → freeB ops act i = true := fin_two hcl hj hr (Ne.symm hji)
   have hij : act i = true → act j = false := fun hai => by
    cases haj : act j with
    | false => rfl
    | true =>
     exfalso
     rcases hok haj with h | h <;> rw [hact hai] at h
     ·cases h
     ·exact hji (Option.some.inj h).symm
   have hact' : act i = true → nx act o j = some i := fun hai => by
    unfold nx
    rw [hij hai]
    exact hact hai
   have hok' : okG act (nx act o i) j := fun haj => by
    have : act i = false := by
     cases hai : act i with
     | false => rfl
     | true => have := hij hai; rw [haj] at this; cases this
    unfold nx
    rw [this]
    exact hok haj
   obtain ⟨hjun, oj, hoj, hall⟩ := mem_ready.1 hj
   have hiun : listed.getD i false = false := by
    have h0 := (mem_ready.1 hr).1
    rcases Nat.lt_or_ge i listed.size with h' | h'
    ·simp [h'] at h0 ⊢; exact h0
    ·simp [Array.getElem?_eq_none h'] at h0
   have hnot : ∀ e ∈ oj.after, Region.binds md e = true → e.on ≠ i := fun e he hb heq => by
    have h1 := hall e he hb
    rw [heq, hiun] at h1; cases h1
   have hap := hfree j oj hoj hji hjun hnot
   obtain ⟨h1, h2, h3⟩ := Oper.apart_spec hap
   have hsi := fun cs b => hsel i oi cs b hi
   have hsj := fun cs b => hsel j oj cs b hoj
   have hready' := ready_mono hr (Ne.symm hji)
   have hcl' := hcl.set hj
   have hfree' : ∀ k ok, ops[k]? = some ok → k ≠ i → (listed.setIfInBounds j true).getD k true = false →
     (∀ e ∈ ok.after, Region.binds md e = true → e.on ≠ i) → oi.apart ops ok = true := fun k ok hk hki hun hno => by
    refine hfree k ok hk hki ?_ hno
    by_cases hjk : j = k
    ·subst hjk; exact hjun
    ·rw [getD_set_ne true hjk] at hun; exact hun
   have hjr := ready_mono hj hji
   have hcomm : (listed.setIfInBounds j true).setIfInBounds i true = (listed.setIfInBounds i true).setIfInBounds j true := Array.setIfInBounds_comm _ _ hji
   have behind : ∀ (u : Value) (w' : World), C w' ∨ Lin md ops act (listed.setIfInBounds j true) → (mOp P md ops C act i (fun a' w'' => wpAnyG P md ops C act Q fuel (nx act (nx act o i) j) ((listed.setIfInBounds i true).setIfInBounds j true) a' w'') (a.put oj.dst u) w') →
     wpAnyG P md ops C act Q (fuel + 1) (nx act o j) (listed.setIfInBounds j true) (a.put oj.dst u) w' := fun u w' hC' hm => by
    refine ih _ _ _ _ hact' hC' hcl' hfree' hready' ?_
    rw [hcomm, ← nx_comm]
    exact hm
   have wi : ∀ u, Region.wanted oi (yielded ops (a.put oj.dst u).tmps) = Region.wanted oi (yielded ops a.tmps) := fun u => wanted_put oi a oj.dst u h3
   have ei : ∀ u, execOp (a.put oj.dst u).eval oi = execOp a.eval oi := fun u => execOp_put oi hsi a oj.dst u h3
   have wj : ∀ v, Region.wanted oj (yielded ops (a.put oi.dst v).tmps) = Region.wanted oj (yielded ops a.tmps) := fun v => wanted_put oj a oi.dst v h1
   have ej : ∀ v, execOp (a.put oi.dst v).eval oj = execOp a.eval oj := fun v => execOp_put oj hsj a oi.dst v h1
   have pc : ∀ v u, (a.put oi.dst v).put oj.dst u = (a.put oj.dst u).put oi.dst v := fun v u => Act.put_comm a v u h2
   unfold mOp at H
   simp only [hi] at H
   by_cases hwi : Region.wanted oi (yielded ops a.tmps) = true
   ·simp only [hwi, if_true] at H
    by_cases hai : act i = true
    ·-- i turns the world: j only looks
     simp only [hai, if_true] at H
     have hnf : finB md ops act i = true → freeB ops act j = true := fin_two hcl hr hj hji
     have hor : C w ∨ freeB ops act j = true := hor.imp id (fun h => h.resolve_right (fun h => freeB_act h hai))
     have haj : act j = false := hij hai
     unfold mOp
     simp only [hoj]
     have H' : does P oi a w (fun v w1 => (C w1 ∨ finB md ops act i = true) ∧ mOp P md ops C act j (wpAnyG P md ops C act Q fuel (nx act (nx act o i) j) ((listed.setIfInBounds i true).setIfInBounds j true)) (a.put oi.dst v) w1) :=
      H.mono fun v w1 ⟨hc, hk⟩ => ⟨hc, hk.2 j hjr hok'⟩
     by_cases hwj : Region.wanted oj (yielded ops a.tmps) = true
     ·simp only [hwj, if_true, haj, Bool.false_eq_true, if_false]
      obtain ⟨v0, w0, hc0, hk0⟩ := H'.some
      unfold mOp at hk0
      simp only [hoj, wj, hwj, if_true, haj, Bool.false_eq_true, if_false, ej] at hk0
      obtain ⟨u, hu, _⟩ := hk0
      have hall : ∀ w2, C w2 ∨ w2 = w → (execOp a.eval oj).run P w2 = .ok (.value u) w2 := fun w2 h => by
       rcases hor with hCw | hf
       ·rcases hc0.imp id hnf with hc0 | hf
        ·exact hu w2 (.inl (h.elim id (fun e => e ▸ hCw)))
        ·exact freeB_run hf hoj (hu w0 (.inr rfl)) w2
       ·exact freeB_run hf hoj (hu w0 (.inr rfl)) w2
      refine ⟨u, hall, behind u w (hCw.imp id Lin.set) ?_⟩
      unfold mOp
      simp only [hi, wi, hwi, if_true, hai]
      have : does P oi a w (fun v w1 => (C w1 ∨ finB md ops act i = true) ∧ wpAnyG P md ops C act Q fuel (nx act (nx act o i) j) ((listed.setIfInBounds i true).setIfInBounds j true) ((a.put oj.dst u).put oi.dst v) w1) := by
       refine H'.mono fun v w1 ⟨hc, hk⟩ => ⟨hc, ?_⟩
       unfold mOp at hk
       simp only [hoj, wj, hwj, if_true, haj, Bool.false_eq_true, if_false, ej] at hk
       obtain ⟨u', hu', hk'⟩ := hk
       have e1 : (execOp a.eval oj).run P w1 = .ok (.value u) w1 := by
        rcases hc.imp id hnf with hc | hf
        ·exact hall w1 (.inl hc)
        ·exact freeB_run hf hoj (hu w0 (.inr rfl)) w1
       have e := e1.symm.trans (hu' w1 (.inr rfl))
       simp only [Result.ok.injEq, Next.value.injEq, and_true] at e
       subst e
       rw [← pc]
       exact hk'
      unfold does at this ⊢
      rw [ei]
      exact this
     ·simp only [hwj, if_false]
      refine behind undef w (hCw.imp id Lin.set) ?_
      unfold mOp
      simp only [hi, wi, hwi, if_true, hai]
      have : does P oi a w (fun v w1 => (C w1 ∨ finB md ops act i = true) ∧ wpAnyG P md ops C act Q fuel (nx act (nx act o i) j) ((listed.setIfInBounds i true).setIfInBounds j true) ((a.put oj.dst undef).put oi.dst v) w1) := by
       refine H'.mono fun v w1 ⟨hc, hk⟩ => ⟨hc, ?_⟩
       unfold mOp at hk
       simp only [hoj, wj, hwj, if_false] at hk
       rw [← pc]
       exact hk
      unfold does at this ⊢
      rw [ei]
      exact this
    ·-- i only looks
     simp only [hai, if_false] at H
     obtain ⟨v, hv, hk⟩ := H
     have hk2 := hk.2 j hjr hok'
     have mi : ∀ (u : Value) (w' : World), C w' ∨ freeB ops act i = true ∨ w' = w → wpAnyG P md ops C act Q fuel (nx act (nx act o i) j) ((listed.setIfInBounds i true).setIfInBounds j true) ((a.put oi.dst v).put oj.dst u) w' →
       mOp P md ops C act i (fun a' w'' => wpAnyG P md ops C act Q fuel (nx act (nx act o i) j) ((listed.setIfInBounds i true).setIfInBounds j true) a' w'') (a.put oj.dst u) w' := fun u w' hC' h => by
      unfold mOp
      simp only [hi, wi, hwi, if_true, hai, if_false, ei]
      refine ⟨v, fun w2 h => ?_, ?_⟩
      ·rcases h with h | rfl
       ·exact hv w2 (.inl h)
       ·rcases hC' with h | h | rfl
        ·exact hv w2 (.inl h)
        ·exact freeB_run h hi (hv w (.inr rfl)) w2
        ·exact hv w2 (.inr rfl)
      rw [← pc]
      exact h
     unfold mOp at hk2 ⊢
     simp only [hoj, wj] at hk2 ⊢
     by_cases hwj : Region.wanted oj (yielded ops a.tmps) = true
     ·simp only [hwj, if_true] at hk2 ⊢
      by_cases haj : act j = true
      ·simp only [haj, if_true] at hk2 ⊢
       have : does P oj a w (fun u w1 => (C w1 ∨ finB md ops act j = true) ∧ wpAnyG P md ops C act Q fuel (nx act (nx act o i) j) ((listed.setIfInBounds i true).setIfInBounds j true) ((a.put oi.dst v).put oj.dst u) w1) := by
        unfold does at hk2 ⊢
        rw [ej] at hk2
        exact hk2
       exact this.mono fun u w1 ⟨hc, h⟩ => ⟨hc, behind u w1 (hc.imp id (fin_lin hcl hj)) (mi u w1 (hc.imp id (fun h => .inl (hnfj h))) h)⟩
      ·simp only [haj, if_false, ej] at hk2 ⊢
       obtain ⟨u, hu, h⟩ := hk2
       exact ⟨u, hu, behind u w (hCw.imp id Lin.set) (mi u w (.inr (.inr rfl)) h)⟩
     ·simp only [hwj, if_false] at hk2 ⊢
      exact behind undef w (hCw.imp id Lin.set) (mi undef w (.inr (.inr rfl)) hk2)
   ·-- i is passed over
    simp only [hwi, if_false] at H
    have hk2 := H.2 j hjr hok'
    have mi : ∀ (u : Value) (w' : World), wpAnyG P md ops C act Q fuel (nx act (nx act o i) j) ((listed.setIfInBounds i true).setIfInBounds j true) ((a.put oi.dst undef).put oj.dst u) w' →
      mOp P md ops C act i (fun a' w'' => wpAnyG P md ops C act Q fuel (nx act (nx act o i) j) ((listed.setIfInBounds i true).setIfInBounds j true) a' w'') (a.put oj.dst u) w' := fun u w' h => by
     unfold mOp
     simp only [hi, wi, hwi, if_false]
     rw [← pc]
     exact h
    unfold mOp at hk2 ⊢
    simp only [hoj, wj] at hk2 ⊢
    by_cases hwj : Region.wanted oj (yielded ops a.tmps) = true
    ·simp only [hwj, if_true] at hk2 ⊢
     by_cases haj : act j = true
     ·simp only [haj, if_true] at hk2 ⊢
      have : does P oj a w (fun u w1 => (C w1 ∨ finB md ops act j = true) ∧ wpAnyG P md ops C act Q fuel (nx act (nx act o i) j) ((listed.setIfInBounds i true).setIfInBounds j true) ((a.put oi.dst undef).put oj.dst u) w1) := by
       unfold does at hk2 ⊢
       rw [ej] at hk2
       exact hk2
      exact this.mono fun u w1 ⟨hc, h⟩ => ⟨hc, behind u w1 (hc.imp id (fin_lin hcl hj)) (mi u w1 h)⟩
     ·simp only [haj, if_false, ej] at hk2 ⊢
      obtain ⟨u, hu, h⟩ := hk2
      exact ⟨u, hu, behind u w (hCw.imp id Lin.set) (mi u w h)⟩
    ·simp only [hwj, if_false] at hk2 ⊢
     exact behind undef w (hCw.imp id Lin.set) (mi undef w hk2)
inductive Tr where
 | nil
 | op (i : Nat) (t : Tr)
 | alt (i : Nat) (s t : Tr)
 | stop
def coversB (md : Region.Mode) (ops : Array Oper) (act : Nat → Bool) (M : List Nat) (listed : Array Bool) : Bool :=
 (List.range ops.size).all fun j => !act j || listed.getD j false || M.contains j || M.any fun i => waitsB md ops ops.size j i
def Tr.okB (md : Region.Mode) (ops : Array Oper) (act : Nat → Bool) : Tr → Nat → Option Nat → List Nat → Array Bool → Bool
 | .nil, _, _, M, listed => M.isEmpty && (Region.ready md ops listed).isEmpty
 | .op i t, fuel, o, M, listed => M.isEmpty && (match fuel with
  | 0 => false
  | f + 1 => (Region.ready md ops listed).contains i && Region.free md ops listed i && (!act i || o == some i) && Tr.okB md ops act t f (nx act o i) [] (listed.setIfInBounds i true))
 | .alt i s t, fuel, o, M, listed => o.isNone && act i && !listed.getD i true && Tr.okB md ops act s fuel (some i) [] listed && Tr.okB md ops act t fuel none (i :: M) listed
 | .stop, _, o, M, listed => o.isNone && !M.isEmpty && coversB md ops act M listed
def wpTr (P : Program) (md : Region.Mode) (ops : Array Oper) (C : World → Prop) (act : Nat → Bool) (Q : Act → World → Prop) : Tr → Act → World → Prop
 | .nil, a, w => Q a w
 | .op i t, a, w => mOp P md ops C act i (wpTr P md ops C act Q t) a w
 | .alt _ s t, a, w => wpTr P md ops C act Q s a w ∧ wpTr P md ops C act Q t a w
 | .stop, _, _ => True
theorem G_ready_nil {Q : Act → World → Prop} {listed : Array Bool} {a : Act} {w : World} (hr : Region.ready md ops listed = []) (h : Q a w) : ∀ (fuel : Nat) (o : Option Nat), wpAnyG P md ops C act Q fuel o listed a w
 | 0, _ => ⟨hr, h⟩
 | _ + 1, _ => ⟨fun _ => h, fun i hi => by rw [hr] at hi; cases hi⟩
theorem G_split {Q : Act → World → Prop} {M : List Nat} (hne : M ≠ []) (hA : ∀ i ∈ M, act i = true) : ∀ (fuel : Nat) (listed : Array Bool) (a : Act) (w : World), Closed md ops listed → (∀ i ∈ M, listed.getD i true = false) →
  (∀ j, j < ops.size → act j = true → listed.getD j false = true ∨ j ∈ M ∨ ∃ i ∈ M, waitsB md ops ops.size j i = true) →
  (∀ i ∈ M, wpAnyG P md ops C act Q fuel (some i) listed a w) → wpAnyG P md ops C act Q fuel none listed a w
 | 0, listed, a, w, _, _, _, h => by
  obtain ⟨i, hi⟩ := List.exists_mem_of_ne_nil _ hne
  exact h i hi
 | fuel + 1, listed, a, w, hcl, hun, hcov, h => by
  obtain ⟨i0, hi0⟩ := List.exists_mem_of_ne_nil _ hne
  refine ⟨(h i0 hi0).1, fun j hj _ => ?_⟩
  obtain ⟨hjun, oj, hoj, hall⟩ := mem_ready.1 hj
  have hjlt : j < ops.size := (Array.getElem?_eq_some_iff.1 hoj).1
  have hjf : listed.getD j false = false := by
   have := hcl.1
   simp [show j < listed.size by omega] at hjun ⊢
   exact hjun
  have e0 : nx act none j = none := by unfold nx; split <;> rfl
  rw [e0]
  cases haj : act j with
  | true =>
   have hjM : j ∈ M := by
    rcases hcov j hjlt haj with h1 | h1 | ⟨i, hi, h1⟩
    ·rw [hjf] at h1; cases h1
    ·exact h1
    ·exfalso
     have hif : listed.getD i false = false := by
      have := hun i hi
      rcases Nat.lt_or_ge i listed.size with h' | h'
      ·simp [h'] at this ⊢; exact this
      ·simp [Array.getElem?_eq_none h'] at this
     exact (waits_unlisted hcl hif _ _ h1).2 hj
   have := (h j hjM).2 j hj (fun _ => .inr rfl)
   rwa [show nx act (some j) j = none by unfold nx; rw [haj]; rfl] at this
  | false =>
   have hall' : ∀ i ∈ M, mOp P md ops C act j (wpAnyG P md ops C act Q fuel (some i) (listed.setIfInBounds j true)) a w := fun i hi => by
    have := (h i hi).2 j hj (fun h => by rw [haj] at h; cases h)
    rwa [show nx act (some i) j = some i by unfold nx; rw [haj]; rfl] at this
   have hun' : ∀ i ∈ M, (listed.setIfInBounds j true).getD i true = false := fun i hi => by
    have hij : j ≠ i := fun e => by have := hA i hi; rw [← e, haj] at this; cases this
    rw [getD_set_ne true hij]
    exact hun i hi
   have hcov' : ∀ k, k < ops.size → act k = true → (listed.setIfInBounds j true).getD k false = true ∨ k ∈ M ∨ ∃ i ∈ M, waitsB md ops ops.size k i = true := fun k hk hak => by
    rcases hcov k hk hak with h1 | h1
    ·exact .inl (getD_set_true h1)
    ·exact .inr h1
   have h0 := hall' i0 hi0
   unfold mOp at h0 ⊢
   simp only [hoj] at h0 ⊢
   split
   ·rename_i hwant
    simp only [hwant, if_true, haj, Bool.false_eq_true, if_false] at h0 ⊢
    obtain ⟨v, hv, hk0⟩ := h0
    refine ⟨v, hv, G_split hne hA fuel _ _ _ (hcl.set hj) hun' hcov' (fun i hi => ?_)⟩
    have h1 := hall' i hi
    unfold mOp at h1
    simp only [hoj, hwant, if_true, haj, Bool.false_eq_true, if_false] at h1
    obtain ⟨v', hv', hk'⟩ := h1
    have e := (hv w (.inr rfl)).symm.trans (hv' w (.inr rfl))
    simp only [Result.ok.injEq, Next.value.injEq, and_true] at e
    subst e
    exact hk'
   ·rename_i hwant
    refine G_split hne hA fuel _ _ _ (hcl.set hj) hun' hcov' (fun i hi => ?_)
    have h1 := hall' i hi
    unfold mOp at h1
    simp only [hoj, hwant, if_false] at h1
    exact h1
theorem tr_sound {Q : Act → World → Prop} (hs : Region.noSelect ops = true) : ∀ (t : Tr) (fuel : Nat) (o : Option Nat) (M : List Nat) (listed : Array Bool) (a : Act) (w : World), C w ∨ Lin md ops act listed → Closed md ops listed → t.okB md ops act fuel o M listed = true →
  (∀ i ∈ M, act i = true ∧ listed.getD i true = false ∧ wpAnyG P md ops C act Q fuel (some i) listed a w) → wpTr P md ops C act Q t a w → wpAnyG P md ops C act Q fuel o listed a w
 | .nil, fuel, o, M, listed, a, w, hw, hcl, hB, hM, h => by
  simp only [Tr.okB, Bool.and_eq_true, List.isEmpty_iff] at hB
  exact G_ready_nil hB.2 h fuel o
 | .stop, fuel, o, M, listed, a, w, hw, hcl, hB, hM, h => by
  simp only [Tr.okB, Bool.and_eq_true, Bool.not_eq_true', Option.isNone_iff_eq_none] at hB
  obtain ⟨⟨rfl, hne⟩, hc⟩ := hB
  refine G_split (M := M) (fun e => by rw [e] at hne; cases hne) (fun i hi => (hM i hi).1) fuel listed a w hcl (fun i hi => (hM i hi).2.1) (fun j hj haj => ?_) (fun i hi => (hM i hi).2.2)
  unfold coversB at hc
  have := List.all_eq_true.1 hc j (List.mem_range.2 hj)
  simp only [haj, Bool.not_true, Bool.false_or, Bool.or_eq_true, List.contains_iff_mem, List.any_eq_true] at this
  rcases this with (h1 | h1) | h1
  ·exact .inl h1
  ·exact .inr (.inl h1)
  ·exact .inr (.inr h1)
 | .alt i s t, fuel, o, M, listed, a, w, hw, hcl, hB, hM, h => by
  simp only [Tr.okB, Bool.and_eq_true, Bool.not_eq_true', Option.isNone_iff_eq_none] at hB
  obtain ⟨⟨⟨⟨rfl, hi⟩, hl⟩, hs'⟩, ht⟩ := hB
  have h1 := tr_sound hs s fuel (some i) [] listed a w hw hcl hs' (fun _ h => by cases h) h.1
  refine tr_sound hs t fuel none (i :: M) listed a w hw hcl ht (fun j hj => ?_) h.2
  rcases List.mem_cons.1 hj with rfl | hj
  ·exact ⟨hi, hl, h1⟩
  ·exact hM j hj
 | .op i t, fuel, o, M, listed, a, w, hw, hcl, hB, hM, h => by
  simp only [Tr.okB, Bool.and_eq_true] at hB
  obtain ⟨_, hB⟩ := hB
  cases fuel with
  | zero => cases hB
  | succ f =>
   simp only [Bool.and_eq_true, Bool.or_eq_true, Bool.not_eq_true', beq_iff_eq] at hB
   obtain ⟨⟨⟨hr, hf⟩, hact⟩, hB'⟩ := hB
   have hr' : i ∈ Region.ready md ops listed := by simpa using hr
   obtain ⟨_, oi, hoi, _⟩ := mem_ready.1 hr'
   refine mG_first hoi (Region.noSelect_spec hs) f o listed a w (fun ha => ?_) hw hcl (Region.free_spec hoi hf) hr' ?_
   ·rcases hact with h1 | h1
    ·rw [ha] at h1; cases h1
    ·exact h1
   ·have go : ∀ a' w', (C w' ∨ Lin md ops act (listed.setIfInBounds i true)) → wpTr P md ops C act Q t a' w' → wpAnyG P md ops C act Q f (nx act o i) (listed.setIfInBounds i true) a' w' := fun a' w' hw' h' =>
     tr_sound hs t f (nx act o i) [] _ a' w' hw' (hcl.set hr') hB' (fun _ h => by cases h) h'
    simp only [wpTr] at h
    unfold mOp at h ⊢
    simp only [hoi] at h ⊢
    split
    ·rename_i hwant
     simp only [hwant, if_true] at h
     split
     ·rename_i ha
      simp only [ha, if_true] at h
      exact h.mono fun v w' ⟨h1, h2⟩ => ⟨h1, go _ _ (h1.imp id (fin_lin hcl hr')) h2⟩
     ·rename_i ha
      simp only [ha] at h
      obtain ⟨v, h1, h2⟩ := h
      exact ⟨v, h1, go _ _ (hw.imp id Lin.set) h2⟩
    ·rename_i hwant
     simp only [hwant] at h
     exact go _ _ (hw.imp id Lin.set) h
theorem wp_region_tr {id : Nat} {Q : Exit → Act → World → Prop} {a : Act} {w : World} (act : Nat → Bool) (t : Tr) (hm : P.follows .mixedOrders = true) (hs : Region.noSelect ops = true) (hB : t.okB .any ops act ops.size none [] (Array.replicate ops.size false) = true)
  (hC : C { w with drawn := w.drawn + 1 }) (h : wpTr P .any ops C act (fun a' w' => Q .normal a' w') t a { w with drawn := w.drawn + 1 }) : (Code.region id ops true).wp P Q a w :=
 wp_region_any hm (wpAny_of_M (C := C) (act := act) (Q := fun a' w' => Q .normal a' w') (fun _ _ h => h) _ _ _ _
  (wpAnyM_of_G _ _ _ _ (tr_sound hs t ops.size none [] _ a _ (.inl hC) ⟨by simp, fun j oj hj hl => by rw [getD_replicate_false] at hl; cases hl⟩ hB (fun _ h => by cases h) h)))
end
def NB (F : Fr) (S : Nat → Prop) (w0 : World) (al : List Nat) (e : Env) (all : List Oper) (t : Tr) (k : List It) (w : World) : Prop :=
 ∀ w', Same w w' → ∀ a, Ag F.z e a → wpTr F.P .any all.toArray (Ext S w0) (fun j => al.contains j) (fun a' w2 => post F k .normal a' w2) t a w'
def N (F : Fr) (S : Nat → Prop) (w0 : World) (al : List Nat) (e : Env) (all : List Oper) (t : Tr) (k : List It) (w : World) : Prop :=
 Ext S w0 w → NB F S w0 al e all t k w
section
variable {F : Fr} {S : Nat → Prop} {w0 : World} {al : List Nat} {e : Env} {k : List It} {w : World} {all : List Oper} {i d : Nat} {op : Op} {ty : TypeId} {pos : String} {af : Array Edge} {g : Option (Nat × Bool)} {t t' : Tr}
theorem G.tree {id : Nat} {l : List Oper} (S : Nat → Prop) (al : List Nat) (t : Tr) (hm : F.P.follows .mixedOrders = true) (hs : Region.noSelect l.toArray = true) (hB : t.okB .any l.toArray (fun j => al.contains j) l.length none [] (Array.replicate l.length false) = true)
  (h : N F S w al e l t k w) : G F e (.region id l.toArray true) k w :=
 fun w' hw a ha => wp_region_tr (C := Ext S w) (fun j => al.contains j) t hm hs (by simpa using hB) (.same (hw.trans (same_draw w'))) (by simpa using h (.refl _) _ (hw.trans (same_draw w')) a ha)
theorem NB.nil (h : A F e k w) : NB F S w0 al e all .nil k w := fun w' hw a ha => h w' hw a ha
theorem NB.stop : NB F S w0 al e all .stop k w := fun _ _ _ _ => trivial
theorem NB.alt (h : NB F S w0 al e all t' k w) (h' : NB F S w0 al e all t k w) : NB F S w0 al e all (.alt i t' t) k w := fun w' hw a ha => ⟨h w' hw a ha, h' w' hw a ha⟩
theorem NB.p {v : Value} (ho : all[i]? = some ⟨some d, op, ty, pos, af, g⟩) (hi : al.contains i = false) (hd : Nat.blt d F.n = true) (hg : gd e all g = some true) (h : ∀ w', Ext S w0 w' ∨ w' = w → Ev F.P e op w' v) (next : NB F S w0 al ((d, v) :: e) all t k w) :
  NB F S w0 al e all (.op i t) k w := by
 intro w' hw a ha
 unfold wpTr mOp
 rw [show all.toArray[i]? = _ by simpa using ho]
 simp only [hi]
 rw [if_pos (gd_wanted ha hg), if_neg (by simp)]
 refine ⟨v, fun w2 hw2 => ?_, next w' hw _ (ha.put hd v)⟩
 rcases hw2 with hw2 | rfl
 ·exact h w2 (.inl hw2) w2 (.refl w2) a.eval (fun x u hx => ha.ev hx) _ rfl
 ·exact h w (.inr rfl) w2 (.same hw) a.eval (fun x u hx => ha.ev hx) _ rfl
theorem NB.skip (ho : all[i]? = some ⟨some d, op, ty, pos, af, g⟩) (hd : Nat.blt d F.n = true) (hg : gd e all g = some false) (next : NB F S w0 al ((d, undef) :: e) all t k w) : NB F S w0 al e all (.op i t) k w := by
 intro w' hw a ha
 unfold wpTr mOp
 rw [show all.toArray[i]? = _ by simpa using ho]
 simp only
 rw [if_neg (by rw [gd_wanted ha hg]; simp)]
 exact next w' hw _ (ha.put hd undef)
theorem NB.v0 {Post : Value → World → Prop} (ho : all[i]? = some ⟨some d, op, ty, pos, af, g⟩) (hi : al.contains i = true) (hd : Nat.blt d F.n = true) (hg : gd e all g = some true) (h : DoV F.P e op w Post) (hC : ∀ v w2, Post v w2 → Ext S w0 w2 ∨ finB .any all.toArray (fun j => al.contains j) i = true)
  (next : ∀ v w2, Post v w2 → NB F S w0 al ((d, v) :: e) all t k w2) : NB F S w0 al e all (.op i t) k w := by
 intro w' hw a ha
 unfold wpTr mOp
 rw [show all.toArray[i]? = _ by simpa using ho]
 simp only [hi]
 rw [if_pos (gd_wanted ha hg), if_pos trivial]
 obtain ⟨v, w2, w3, hr, hs, hp⟩ := h w' hw a.eval (fun x u hx => ha.ev hx) ⟨some d, op, ty, pos, af, g⟩ rfl
 unfold does
 rw [hr]
 exact ⟨(hC v w2 hp).imp (fun h => h.trans (.same hs)) id, next v w2 hp w3 hs _ (ha.put hd v)⟩
theorem NB.s0 {Post : World → Prop} (ho : all[i]? = some ⟨none, op, ty, pos, af, g⟩) (hi : al.contains i = true) (hg : gd e all g = some true) (h : DoS F.P e op w Post) (hC : ∀ w2, Post w2 → Ext S w0 w2 ∨ finB .any all.toArray (fun j => al.contains j) i = true)
  (next : ∀ w2, Post w2 → NB F S w0 al e all t k w2) : NB F S w0 al e all (.op i t) k w := by
 intro w' hw a ha
 unfold wpTr mOp
 rw [show all.toArray[i]? = _ by simpa using ho]
 simp only [hi]
 rw [if_pos (gd_wanted ha hg), if_pos trivial]
 obtain ⟨w2, w3, hr, hs, hp⟩ := h w' hw a.eval (fun x u hx => ha.ev hx) ⟨none, op, ty, pos, af, g⟩ rfl
 unfold does
 rw [hr]
 exact ⟨(hC w2 hp).imp (fun h => h.trans (.same hs)) id, next w2 hp w3 hs _ (ha.put0 undef)⟩
theorem NB.sL {Post : World → Prop} (ho : all[i]? = some ⟨none, op, ty, pos, af, g⟩) (hi : al.contains i = true) (hg : gd e all g = some true) (h : DoS F.P e op w Post) (hf : finB .any all.toArray (fun j => al.contains j) i = true)
  (next : ∀ w2, Post w2 → NB F S w0 al e all t k w2) : NB F S w0 al e all (.op i t) k w := .s0 ho hi hg h (fun _ _ => .inr hf) next
theorem N.nil (h : A F e k w) : N F S w0 al e all .nil k w := fun _ => .nil h
theorem N.stop : N F S w0 al e all .stop k w := fun _ => .stop
theorem N.alt (h : N F S w0 al e all t' k w) (h' : N F S w0 al e all t k w) : N F S w0 al e all (.alt i t' t) k w := fun hX => .alt (h hX) (h' hX)
theorem N.p {v : Value} (ho : all[i]? = some ⟨some d, op, ty, pos, af, g⟩) (hi : al.contains i = false) (hd : Nat.blt d F.n = true) (hg : gd e all g = some true) (h : ∀ w', Ext S w0 w' → Ev F.P e op w' v) (next : N F S w0 al ((d, v) :: e) all t k w) :
  N F S w0 al e all (.op i t) k w := fun hX => .p ho hi hd hg (fun w' hw' => h w' (hw'.elim id (fun e => e ▸ hX))) (next hX)
theorem N.skip (ho : all[i]? = some ⟨some d, op, ty, pos, af, g⟩) (hd : Nat.blt d F.n = true) (hg : gd e all g = some false) (next : N F S w0 al ((d, undef) :: e) all t k w) : N F S w0 al e all (.op i t) k w := fun hX => .skip ho hd hg (next hX)
theorem N.v {Post : Value → World → Prop} (ho : all[i]? = some ⟨some d, op, ty, pos, af, g⟩) (hi : al.contains i = true) (hd : Nat.blt d F.n = true) (hg : gd e all g = some true) (h : DoV F.P e op w Post) (hC : ∀ v w2, Post v w2 → Ext S w0 w2)
  (next : ∀ v w2, Post v w2 → N F S w0 al ((d, v) :: e) all t k w2) : N F S w0 al e all (.op i t) k w := fun hX => .v0 ho hi hd hg h (fun v w2 hp => .inl (hC v w2 hp)) (fun v w2 hp => next v w2 hp (hC v w2 hp))
theorem N.s {Post : World → Prop} (ho : all[i]? = some ⟨none, op, ty, pos, af, g⟩) (hi : al.contains i = true) (hg : gd e all g = some true) (h : DoS F.P e op w Post) (hC : ∀ w2, Post w2 → Ext S w0 w2)
  (next : ∀ w2, Post w2 → N F S w0 al e all t k w2) : N F S w0 al e all (.op i t) k w := fun hX => .s0 ho hi hg h (fun w2 hp => .inl (hC w2 hp)) (fun w2 hp => next w2 hp (hC w2 hp))
theorem N.sL {Post : World → Prop} (ho : all[i]? = some ⟨none, op, ty, pos, af, g⟩) (hi : al.contains i = true) (hg : gd e all g = some true) (h : DoS F.P e op w Post) (hf : finB .any all.toArray (fun j => al.contains j) i = true)
  (next : ∀ w2, Post w2 → NB F S w0 al e all t k w2) : N F S w0 al e all (.op i t) k w := fun _ => .sL ho hi hg h hf next
theorem N.call {c : Operand} {f : FuncId} {xs : List Operand} {ats : Array TypeId} {vs first captured : List Value} {Post : Value → World → Prop} (ho : all[i]? = some ⟨some d, .call { callee := .value c, args := xs.toArray, argTypes := ats }, ty, pos, af, g⟩) (hi : al.contains i = true) (hd : Nat.blt d F.n = true) (hg : gd e all g = some true)
  (hf : look e c = some (.func (.func f) first.toArray captured.toArray)) (hx : xs.mapM (look e) = some vs) (hc : Fn F.P f (first ++ vs ++ captured) w Post) (hC : ∀ r w2, Post r w2 → Ext S w0 w2) (next : ∀ r w2, Post r w2 → N F S w0 al ((d, r) :: e) all t k w2) :
  N F S w0 al e all (.op i t) k w := by
 intro hX w' hw a ha
 unfold wpTr mOp
 rw [show all.toArray[i]? = _ by simpa using ho]
 simp only [hi]
 rw [if_pos (gd_wanted ha hg), if_pos trivial]
 unfold does
 rw [run_call_value rfl (ha.ev hf), look_args (fun x u hx => ha.ev hx) xs vs hx, hc.1 w']
 refine (hc.2 w' hw).mono fun en w3 ⟨r, w2, hs, he, hp⟩ => ?_
 subst he
 exact ⟨.inl ((hC r w2 hp).trans (.same hs)), next r w2 hp (hC r w2 hp) w3 hs _ (ha.put hd r)⟩
theorem N.case (n : Nat) {b : Bool} (h : e.get n = some (.bool b)) (h1 : b = true → N F S w0 al ((n, .bool true) :: e) all t k w) (h2 : b = false → N F S w0 al ((n, .bool false) :: e) all t k w) : N F S w0 al e all t k w := by
 have hkeep : ∀ {m : Sz} {a : Act}, Ag m e a → Ag m ((n, .bool b) :: e) a := fun ha => ⟨ha.1, ha.2.1, fun t' v' h' => by
  simp only [Env.get, cond_eq_ite, Nat.beq_eq] at h'
  by_cases ht : n = t'
  ·subst ht; simp at h'; subst h'; exact ha.2.2 _ _ h
  ·rw [if_neg ht] at h'; exact ha.2.2 _ _ h'⟩
 intro hX w' hw a ha
 cases b
 ·exact h2 rfl hX w' hw a (hkeep ha)
 ·exact h1 rfl hX w' hw a (hkeep ha)
theorem N.caseD (n : Nat) {p : Prop} [Decidable p] (h : e.get n = some (.bool (decide p))) (h1 : p → N F S w0 al ((n, .bool true) :: e) all t k w) (h2 : ¬ p → N F S w0 al ((n, .bool false) :: e) all t k w) : N F S w0 al e all t k w :=
 N.case n h (fun hb => h1 (of_decide_eq_true hb)) (fun hb => h2 (of_decide_eq_false hb))
end
end Go.Proofs.YtpfehnopghffjaaGreatDoor
namespace Go.Proofs.YtpfehnopghffjaaGreatDoor
open Go disk
theorem all_take {α : Type} {p : α → Bool} {l : List α} {k : Nat} (hk : k < l.length) (h : (l.take k).all p = true) (hp : p l[k] = true) : (l.take (k + 1)).all p = true := by
 rw [List.take_succ_eq_append_getElem hk, List.all_append, h]
 simp [hp]
theorem Check_fn {w : World} {v : Value} {d : Disk} (h : tDisk.rep All w v d) : Fn Tryz.prog 103 [v] w (fun r w2 => r = i64 (checkF d) ∧ Ext (fun _ => False) w w2) := by
 obtain ⟨u, u', rfl, hd, hw, hc1, hc2⟩ := tDisk.val h
 obtain ⟨a, cap, rfl, hcap⟩ := Sl.val hd
 obtain ⟨aw, capw, rfl, hcapw⟩ := Sl.val hw
 have hlim := Sl.lim hd
 have hlimw := Sl.lim hw
 simp only [Lim] at hlim hlimw
 refine Fn.enter (fun w => Tryz.call103 _ w) Tryz.func103 rfl ?_
 refine .seq (.region ?_)
 refine .v rfl rfl (.box rfl) ?_
 rintro _ w1 ⟨rfl, N1⟩
 have B1 := N1.blk
 refine .p rfl rfl (.as rfl) (.nil (.code (.seq (.seq (.keep [(1, _)] ⟨rfl, trivial⟩ (.region ?_))))))
 refine .p rfl rfl (.fieldAddr rfl rfl rfl rfl) (.p rfl rfl (.load rfl rfl rfl (B1.cell 0)) (.p rfl rfl (.lt rfl rfl) (.p rfl rfl (.mv rfl) ?_)))
 refine .caseD 8 rfl (fun c8 => ?_) (fun c8 => ?_)
 ·refine .skip rfl rfl (.skip rfl rfl (.skip rfl rfl (.p rfl rfl (.pickT rfl rfl) (.p rfl rfl (.mv rfl) (.skip rfl rfl (.skip rfl rfl (.skip rfl rfl (.skip rfl rfl (.skip rfl rfl (.skip rfl rfl (.skip rfl rfl (.p rfl rfl (.pickT rfl rfl) (.p rfl rfl (.mv rfl) ?_)))))))))))))
  refine .skip rfl rfl (.skip rfl rfl (.skip rfl rfl (.skip rfl rfl (.p rfl rfl (.pickT rfl rfl) (.nil (.code (.keep [(27, _), (1, _)] ⟨rfl, rfl, trivial⟩ (.condT rfl (.seq (.keep [] trivial (.region ?_)))))))))))
  refine .p rfl rfl (.as rfl) (.nil (.code ?_))
  refine .ret _ rfl ?_
  exact ⟨by unfold checkF; rw [if_pos (by omega)]; rfl, N1.ext⟩
 ·refine .p rfl rfl (.fieldAddr rfl rfl rfl rfl) (.p rfl rfl (.load rfl rfl rfl (B1.cell 0)) (.p rfl rfl (.gt rfl rfl) (.p rfl rfl (.pickF rfl rfl) (.p rfl rfl (.mv rfl) ?_))))
  refine .caseD 13 rfl (fun c13 => ?_) (fun c13 => ?_)
  ·refine .skip rfl rfl (.skip rfl rfl (.skip rfl rfl (.skip rfl rfl (.skip rfl rfl (.skip rfl rfl (.skip rfl rfl (.p rfl rfl (.pickT rfl rfl) (.p rfl rfl (.mv rfl) (.skip rfl rfl (.skip rfl rfl (.skip rfl rfl (.skip rfl rfl (.p rfl rfl (.pickT rfl rfl) ?_)))))))))))))
   refine .nil (.code (.keep [(27, _), (1, _)] ⟨rfl, rfl, trivial⟩ (.condT rfl (.seq (.keep [] trivial (.region ?_))))))
   refine .p rfl rfl (.as rfl) (.nil (.code ?_))
   refine .ret _ rfl ?_
   exact ⟨by unfold checkF; rw [if_pos (by omega)]; rfl, N1.ext⟩
  ·refine .p rfl rfl (.fieldAddr rfl rfl rfl rfl) (.p rfl rfl (.load rfl rfl rfl (B1.cell 1)) (.p rfl rfl (.len rfl rfl) (.p rfl rfl (.fieldAddr rfl rfl rfl rfl) (.p rfl rfl (.load rfl rfl rfl (B1.cell 0)) (.p rfl rfl (.mul rfl rfl (by omega)) (.p rfl rfl (.ne rfl rfl) (.p rfl rfl (.pickF rfl rfl) (.p rfl rfl (.mv rfl) ?_))))))))
   refine .caseD 22 rfl (fun c22 => ?_) (fun c22 => ?_)
   ·refine .skip rfl rfl (.skip rfl rfl (.skip rfl rfl (.skip rfl rfl (.p rfl rfl (.pickT rfl rfl) (.nil (.code (.keep [(27, _), (1, _)] ⟨rfl, rfl, trivial⟩ (.condT rfl (.seq (.keep [] trivial (.region ?_)))))))))))
    refine .p rfl rfl (.as rfl) (.nil (.code ?_))
    refine .ret _ rfl ?_
    exact ⟨by unfold checkF; rw [if_pos (by omega)]; rfl, N1.ext⟩
   ·refine .p rfl rfl (.fieldAddr rfl rfl rfl rfl) (.p rfl rfl (.load rfl rfl rfl (B1.cell 2)) (.p rfl rfl (.len rfl rfl) (.p rfl rfl (.gt rfl rfl) (.p rfl rfl (.pickF rfl rfl) (.nil (.code (.keep [(27, _), (1, _)] ⟨rfl, rfl, trivial⟩ ?_)))))))
    refine .condD rfl (fun c27 => ?_) (fun c27 => ?_)
    ·refine .seq (.keep [] trivial (.region ?_))
     refine .p rfl rfl (.as rfl) (.nil (.code ?_))
     refine .ret _ rfl ?_
     exact ⟨by unfold checkF; rw [if_pos (by omega)]; rfl, N1.ext⟩
    ·refine .skip (.code (.seq (.seq (.keep [(1, _)] ⟨rfl, trivial⟩ (.region ?_)))))
     refine .p rfl rfl (.fieldAddr rfl rfl rfl rfl) (.p rfl rfl (.load rfl rfl rfl (B1.cell 2)) (.p rfl rfl (.len rfl rfl) (.p rfl rfl (.mv rfl) (.nil (.code (.block (.keep [(31, _), (30, _), (29, _), (1, _)] ⟨rfl, rfl, rfl, rfl, trivial⟩ ?_)))))))
     refine .loop (S := Nat × World) (fun s => [(1, .pointer (some ⟨w.heap.size, 0, none⟩)), (29, .slice aw d.waits.length capw), (30, i64 d.waits.length), (31, i64 s.1)]) (fun s => s.2) (fun s => s.1 ≤ d.waits.length ∧ Ext (fun _ => False) w1 s.2 ∧ (d.waits.take s.1).all (okPut d.count) = true) (fun s => d.waits.length - s.1) (0, w1) ⟨rfl, rfl, rfl, rfl, trivial⟩ rfl ⟨Nat.zero_le _, .refl _, rfl⟩ ?_
     rintro ⟨i, wi⟩ J ⟨hi', hX, hall⟩ again
     simp only at hi' hX hall
     refine .seq (.region ?_)
     refine .p rfl rfl (.lt rfl rfl) (.nil (.code (.seq ?_)))
     refine .condD rfl (fun c32 => ?_) (fun c32 => ?_)
     ·have hi : i < d.waits.length := by omega
      obtain ⟨bw, ow, cw, ue, e, _, hcs, hre⟩ := Sl.at hw (List.getElem?_eq_getElem hi)
      cases e
      obtain ⟨ud, rfl, hud, hs1, hs2⟩ := tPut.val hre
      obtain ⟨ad, capd, rfl, _⟩ := Sl.val hud
      have hcs' := hcs.ext (N1.ext.trans hX) (fun x => x)
      refine .skip (.code (.seq (.block (.seq (.keep [(1, _), (29, _), (30, _), (31, _)] ⟨rfl, rfl, rfl, rfl, trivial⟩ (.region ?_))))))
      refine .p rfl rfl (.indexAddr (s := 2) rfl rfl rfl rfl (by omega)) (.p rfl rfl (.loadA (n := 2) rfl rfl rfl rfl rfl hcs') (.v rfl rfl (.alloc rfl rfl) ?_))
      rintro _ w4 ⟨rfl, N4⟩
      refine .s rfl (.storeAll (n := 2) rfl rfl rfl rfl rfl N4.blk rfl) ?_
      intro w5 P5
      have X5 := N4.ext.then P5.ext (by rintro k rfl _; exact Nat.le_refl _)
      have B4 := P5.blk
      have B1' := B1.ext (hX.trans X5) (fun x => x)
      refine .nil (.code (.seq (.keep [(4, _), (1, _), (29, _), (30, _), (31, _)] ⟨rfl, rfl, rfl, rfl, rfl, trivial⟩ (.region ?_))))
      refine .p rfl rfl (.fieldAddr rfl rfl rfl rfl) (.p rfl rfl (.load rfl rfl rfl (B4.cell 0)) (.p rfl rfl (.lt rfl rfl) (.p rfl rfl (.mv rfl) ?_)))
      refine .caseD 38 rfl (fun c38 => ?_) (fun c38 => ?_)
      ·refine .skip rfl rfl (.skip rfl rfl (.skip rfl rfl (.skip rfl rfl (.skip rfl rfl (.p rfl rfl (.pickT rfl rfl) (.p rfl rfl (.mv rfl) (.skip rfl rfl (.skip rfl rfl (.skip rfl rfl (.skip rfl rfl (.p rfl rfl (.pickT rfl rfl) (.nil (.code (.keep [(50, _), (1, _), (29, _), (30, _), (31, _)] ⟨rfl, rfl, rfl, rfl, rfl, trivial⟩ (.condT rfl (.seq (.keep [] trivial (.region ?_))))))))))))))))))
       refine .p rfl rfl (.as rfl) (.nil (.code ?_))
       refine .ret _ rfl ?_
       have e : checkF d = 20 := by
        unfold checkF
        split
        ·rfl
        ·rw [if_neg]
         intro h
         have := List.all_eq_true.1 h _ (List.getElem_mem hi)
         unfold okPut at this
         rw [decide_eq_true_eq] at this
         omega
       exact ⟨by rw [e]; rfl, N1.ext.trans (hX.trans X5)⟩
      ·refine .p rfl rfl (.fieldAddr rfl rfl rfl rfl) (.p rfl rfl (.load rfl rfl rfl (B4.cell 0)) (.p rfl rfl (.fieldAddr rfl rfl rfl rfl) (.p rfl rfl (.load rfl rfl rfl (B1'.cell 0)) (.p rfl rfl (.ge rfl rfl) (.p rfl rfl (.pickF rfl rfl) (.p rfl rfl (.mv rfl) ?_))))))
       refine .caseD 45 rfl (fun c45 => ?_) (fun c45 => ?_)
       ·refine .skip rfl rfl (.skip rfl rfl (.skip rfl rfl (.skip rfl rfl (.p rfl rfl (.pickT rfl rfl) (.nil (.code (.keep [(50, _), (1, _), (29, _), (30, _), (31, _)] ⟨rfl, rfl, rfl, rfl, rfl, trivial⟩ (.condT rfl (.seq (.keep [] trivial (.region ?_)))))))))))
        refine .p rfl rfl (.as rfl) (.nil (.code ?_))
        refine .ret _ rfl ?_
        have e : checkF d = 20 := by
         unfold checkF
         split
         ·rfl
         ·rw [if_neg]
          intro h
          have := List.all_eq_true.1 h _ (List.getElem_mem hi)
          unfold okPut at this
          rw [decide_eq_true_eq] at this
          omega
        exact ⟨by rw [e]; rfl, N1.ext.trans (hX.trans X5)⟩
       ·refine .p rfl rfl (.fieldAddr rfl rfl rfl rfl) (.p rfl rfl (.load rfl rfl rfl (B4.cell 1)) (.p rfl rfl (.len rfl rfl) (.p rfl rfl (.ne rfl rfl) (.p rfl rfl (.pickF rfl rfl) (.nil (.code (.keep [(50, _), (1, _), (29, _), (30, _), (31, _)] ⟨rfl, rfl, rfl, rfl, rfl, trivial⟩ ?_)))))))
        refine .condD rfl (fun c50 => ?_) (fun c50 => ?_)
        ·refine .seq (.keep [] trivial (.region ?_))
         refine .p rfl rfl (.as rfl) (.nil (.code ?_))
         refine .ret _ rfl ?_
         have e : checkF d = 20 := by
          unfold checkF
          split
          ·rfl
          ·rw [if_neg]
           intro h
           have := List.all_eq_true.1 h _ (List.getElem_mem hi)
           unfold okPut at this
           rw [decide_eq_true_eq] at this
           omega
         exact ⟨by rw [e]; rfl, N1.ext.trans (hX.trans X5)⟩
        ·refine .skip (.blk (.code (.keep [(1, _), (29, _), (30, _), (31, _)] ⟨rfl, rfl, rfl, rfl, trivial⟩ (.region ?_))))
         refine .p rfl rfl (.add rfl rfl (by omega)) (.p rfl rfl (.mv rfl) (.nil ?_))
         exact (again (i + 1, w5) ⟨by show i + 1 ≤ _; omega, hX.trans X5, all_take hi hall (by unfold okPut; rw [decide_eq_true_eq]; omega)⟩ (by show _ - (i + 1) < _ - i; omega)).of ⟨rfl, rfl, rfl, rfl, trivial⟩
     ·refine .exit rfl (.code (.seq (.keep [] trivial (.region ?_))))
      refine .p rfl rfl (.as rfl) (.nil (.code ?_))
      refine .ret _ rfl ?_
      obtain rfl : i = d.waits.length := by omega
      rw [List.take_length] at hall
      exact ⟨by unfold checkF; rw [if_neg (by omega), if_pos hall]; rfl, N1.ext.trans hX⟩
theorem bytesClone_fn {w : World} {v : Value} {l : Bs} (h : tBytes.rep All w v l) : Fn Tryz.prog 107 [v] w (fun r w2 => ∃ b, Own tByte (fun _ => False) 5 w2 r l b ∧ w.heap.size ≤ b ∧ Ext (fun _ => False) w w2) := by
 obtain ⟨a, cap, rfl, hcap⟩ := Sl.val h
 have hlim := Sl.lim h
 simp only [Lim] at hlim
 refine Fn.enter (fun w => Tryz.call107 _ w) Tryz.func107 rfl ?_
 refine .seq (.region ?_)
 refine .p rfl rfl (.as rfl) (.nil (.code (.seq (.seq (.keep [(0, _)] ⟨rfl, trivial⟩ (.region ?_))))))
 refine .p rfl rfl (.mv rfl) (.p rfl rfl (.eqNil rfl rfl rfl) (.nil (.code (.keep [(4, _), (0, _)] ⟨rfl, rfl, trivial⟩ ?_))))
 refine .cond rfl (fun c4 => ?_) (fun c4 => ?_)
 ·refine .seq (.keep [] trivial (.region ?_))
  refine .p rfl rfl (.as rfl) (.nil (.code ?_))
  refine .ret _ rfl ?_
  rw [Sl.isNone h c4]
  exact ⟨w.heap.size, Own.nil, Nat.le_refl _, .refl _⟩
 ·refine .skip (.code (.seq (.keep [(0, _)] ⟨rfl, trivial⟩ (.region ?_))))
  refine .v rfl rfl (.lits rfl rfl (fun _ => by kernel_rfl)) ?_
  rintro _ w5 ⟨rfl, N5⟩
  refine .p rfl rfl (.mv rfl) (.v rfl rfl (.append (t := tByte) (Q := fun _ => False) (eb := 1) rfl (Own.ofNew (us := []) N5 .nil (by decide) rfl rfl) rfl (Sl.holds (tBytes.ext0 h N5.ext) (fun _ _ h => h)) rfl rfl rfl rfl rfl rfl rfl (by simp; omega) (by simp [Lim]; omega) (fun _ h _ => h.elim)) ?_)
  rintro v7 w7 ⟨b7, O7, X7, hb7⟩
  have O7 := O7.mono (Q' := fun _ => False) (fun _ h _ => h.1)
  have Z7 := N5.ext.then X7 (by rintro k rfl _; omega)
  have hz5 := N5.size
  refine .p rfl rfl (.as rfl) (.nil (.code ?_))
  refine .ret _ rfl ?_
  exact ⟨b7, O7, by omega, Z7⟩
namespace disk
def askedF (d : Disk) (n : Int) : Int := if ¬ checkF d = 0 then checkF d else if n < 0 ∨ d.count ≤ n then 21 else 0
theorem check_ok {d : Disk} (h : checkF d = 0) : 1 ≤ d.count ∧ d.count ≤ 4096 ∧ (d.data.length : Int) = d.count * 128 ∧ d.waits.length ≤ 4096 ∧ ∀ p ∈ d.waits, 0 ≤ p.sector ∧ p.sector < d.count ∧ p.data.length = 128 := by
 unfold checkF at h
 split at h
 ·cases h
 ·split at h
  ·rename_i c1 c2
   refine ⟨by omega, by omega, by omega, by omega, fun p hp => ?_⟩
   have := List.all_eq_true.1 c2 p hp
   unfold okPut at this
   rwa [decide_eq_true_eq] at this
  ·cases h
end disk
theorem asked_fn {w : World} {v : Value} {d : Disk} {n : Int} (h : tDisk.rep All w v d) : Fn Tryz.prog 121 [v, i64 n] w (fun r w2 => r = i64 (askedF d n) ∧ Ext (fun _ => False) w w2) := by
 obtain ⟨u, u', rfl, hd, hw, hc1, hc2⟩ := tDisk.val h
 refine Fn.enter (fun w => Tryz.call121 _ w) Tryz.func121 rfl ?_
 refine .seq (.region ?_)
 refine .v rfl rfl (.box rfl) ?_
 rintro _ w2 ⟨rfl, N2⟩
 refine .p rfl rfl (.as rfl) (.nil (.code (.seq (.seq (.keep [(2, _), (1, _)] ⟨rfl, rfl, trivial⟩ (.region ?_))))))
 refine .p rfl rfl (.loadA (n := 3) rfl rfl rfl rfl rfl N2.blk.cells) (.call (first := []) (captured := []) rfl rfl rfl rfl (Check_fn (tDisk.ext0 h N2.ext)) ?_)
 rintro _ w7 ⟨rfl, X7⟩
 have B7 := N2.blk.ext X7 (fun x => x)
 refine .p rfl rfl (.as rfl) (.nil (.code (.seq (.keep [(5, _), (2, _), (1, _)] ⟨rfl, rfl, rfl, trivial⟩ (.region ?_)))))
 refine .p rfl rfl (.mv rfl) (.p rfl rfl (.ne rfl rfl) (.nil (.code (.keep [(9, _), (5, _), (2, _), (1, _)] ⟨rfl, rfl, rfl, rfl, trivial⟩ ?_))))
 refine .condD rfl (fun c9 => ?_) (fun c9 => ?_)
 ·refine .seq (.keep [(5, _)] ⟨rfl, trivial⟩ (.region ?_))
  refine .p rfl rfl (.mv rfl) (.p rfl rfl (.as rfl) (.nil (.code ?_)))
  refine .ret _ rfl ?_
  exact ⟨by unfold askedF; rw [if_pos c9]; rfl, N2.ext.trans X7⟩
 ·refine .skip (.code (.seq (.seq (.keep [(2, _), (1, _)] ⟨rfl, rfl, trivial⟩ (.region ?_)))))
  refine .p rfl rfl (.mv rfl) (.p rfl rfl (.lt rfl rfl) (.p rfl rfl (.mv rfl) ?_))
  refine .caseD 13 rfl (fun c13 => ?_) (fun c13 => ?_)
  ·refine .skip rfl rfl (.skip rfl rfl (.skip rfl rfl (.skip rfl rfl (.p rfl rfl (.pickT rfl rfl) (.nil (.code (.keep [(18, _)] ⟨rfl, trivial⟩ (.condT rfl (.seq (.keep [] trivial (.region ?_)))))))))))
   refine .p rfl rfl (.as rfl) (.nil (.code ?_))
   refine .ret _ rfl ?_
   exact ⟨by unfold askedF; rw [if_neg c9, if_pos (by omega)]; rfl, N2.ext.trans X7⟩
  ·refine .p rfl rfl (.mv rfl) (.p rfl rfl (.fieldAddr rfl rfl rfl rfl) (.p rfl rfl (.load rfl rfl rfl (B7.cell 0)) (.p rfl rfl (.ge rfl rfl) (.p rfl rfl (.pickF rfl rfl) (.nil (.code (.keep [(18, _)] ⟨rfl, trivial⟩ ?_)))))))
   refine .condD rfl (fun c18 => ?_) (fun c18 => ?_)
   ·refine .seq (.keep [] trivial (.region ?_))
    refine .p rfl rfl (.as rfl) (.nil (.code ?_))
    refine .ret _ rfl ?_
    exact ⟨by unfold askedF; rw [if_neg c9, if_pos (by omega)]; rfl, N2.ext.trans X7⟩
   ·refine .skip (.code (.seq (.keep [] trivial (.region ?_))))
    refine .p rfl rfl (.as rfl) (.nil (.code ?_))
    refine .ret _ rfl ?_
    exact ⟨by unfold askedF; rw [if_neg c9, if_neg (by omega)]; rfl, N2.ext.trans X7⟩
theorem Sure_fn {w : World} {v : Value} {d : Disk} {n : Int} (h : tDisk.rep All w v d) : Fn Tryz.prog 122 [v, i64 n] w (fun r w2 => ∃ s b, r = .tuple #[s, i64 (askedF d n)] ∧ Own tByte (fun _ => False) 5 w2 s (if askedF d n = 0 then (d.data.drop (n.toNat * 128)).take 128 else []) b ∧ w.heap.size ≤ b ∧ Ext (fun _ => False) w w2) := by
 obtain ⟨u, u', rfl, hd, hw, hc1, hc2⟩ := tDisk.val h
 obtain ⟨a, cap, rfl, hcap⟩ := Sl.val hd
 refine Fn.enter (fun w => Tryz.call122 _ w) Tryz.func122 rfl ?_
 refine .seq (.region ?_)
 refine .v rfl rfl (.box rfl) ?_
 rintro _ w2 ⟨rfl, N2⟩
 refine .p rfl rfl (.as rfl) (.p rfl rfl (.as rfl) (.nil (.code (.seq (.seq (.keep [(2, _), (1, _)] ⟨rfl, rfl, trivial⟩ (.region ?_)))))))
 refine .p rfl rfl (.loadA (n := 3) rfl rfl rfl rfl rfl N2.blk.cells) (.p rfl rfl (.mv rfl) (.call (first := []) (captured := []) rfl rfl rfl rfl (asked_fn (n := n) (tDisk.ext0 h N2.ext)) ?_))
 rintro _ w9 ⟨rfl, X9⟩
 have B9 := N2.blk.ext X9 (fun x => x)
 refine .p rfl rfl (.as rfl) (.nil (.code (.seq (.keep [(6, _), (2, _), (1, _)] ⟨rfl, rfl, rfl, trivial⟩ (.region ?_)))))
 refine .p rfl rfl (.mv rfl) (.p rfl rfl (.ne rfl rfl) (.nil (.code (.keep [(11, _), (6, _), (2, _), (1, _)] ⟨rfl, rfl, rfl, rfl, trivial⟩ ?_))))
 refine .condD rfl (fun c11 => ?_) (fun c11 => ?_)
 ·refine .seq (.keep [(6, _)] ⟨rfl, trivial⟩ (.region ?_))
  refine .p rfl rfl (.mv rfl) (.p rfl rfl (.as rfl) (.p rfl rfl (.as rfl) (.nil (.code ?_))))
  refine .ret _ rfl ?_
  exact ⟨_, w.heap.size, rfl, by rw [if_neg c11]; exact Own.nil, Nat.le_refl _, N2.ext.trans X9⟩
 ·have hA : askedF d n = 0 := Decidable.byContradiction c11
  have hA2 := hA
  unfold askedF at hA2
  split at hA2
  ·omega
  split at hA2
  ·omega
  rename_i hck hrg
  obtain ⟨k1, k2, k3, k4, k5⟩ := check_ok (Decidable.byContradiction hck)
  obtain ⟨m, rfl⟩ := Int.eq_ofNat_of_zero_le (a := n) (by omega)
  obtain ⟨a3, cap3, hv17, hc17, R17⟩ := Sl.cutE hd (m * 128) d.data.length (by omega) (by omega)
  obtain ⟨a4, cap4, hv18, hc18, R18⟩ := Sl.cutE R17 0 128 (by omega) (by omega)
  rw [List.take_length, List.drop_zero] at R18
  simp only [Nat.sub_zero] at hv18 R18
  refine .skip (.code (.seq (.keep [(2, _), (1, _)] ⟨rfl, rfl, trivial⟩ (.region ?_))))
  refine .p rfl rfl (.fieldAddr rfl rfl rfl rfl) (.p rfl rfl (.load rfl rfl rfl (B9.cell 1)) (.p rfl rfl (.mv rfl) (.p rfl rfl (.mul rfl rfl (by omega)) (.p rfl rfl (.cast (.cutLo (s := 1) rfl rfl rfl rfl (by omega)) (by show cutV 1 a cap ((m : Int) * 128).toNat d.data.length = .slice a3 (d.data.length - m * 128) cap3; rw [show ((m : Int) * 128).toNat = m * 128 by omega]; exact hv17)) (.p rfl rfl (.cast (.cutHi (s := 1) rfl rfl rfl rfl (by omega)) hv18) (.call (first := []) (captured := []) rfl rfl rfl rfl (bytesClone_fn (tBytes.ext0 R18 (N2.ext.trans X9))) ?_))))))
  rintro s19 w19 ⟨b19, O19, hb19, X19⟩
  have z2 := N2.size
  have z9 := X9.size
  refine .p rfl rfl (.as rfl) (.p rfl rfl (.as rfl) (.nil (.code ?_)))
  refine .ret _ rfl ?_
  exact ⟨_, b19, by rw [hA]; rfl, by rw [if_pos hA]; exact O19, by omega, N2.ext.trans (X9.trans X19)⟩
namespace disk
def nodisk : Disk := ⟨0, [], []⟩
def newF (n : Int) : Disk × Int := if n < 1 ∨ 4096 < n then (nodisk, 20) else (⟨n, List.replicate (n.toNat * 128) 0, []⟩, 0)
def lastOf (ws : List disk.Put) (n : Int) : Option Bs := (ws.reverse.find? (fun p => p.sector = n)).map (·.data)
def readF (d : Disk) (n : Int) : Bs := match lastOf d.waits n with | some b => b | none => (d.data.drop (n.toNat * 128)).take 128
end disk
theorem zeros_own {n k : Nat} {w w2 : World} {E : TypeId} {Q : Nat → Prop} (N : New w w2 E (List.replicate n (Value.int .u8 0))) (hn : n < Lim) (hk : k = n) (hq : Q w.heap.size) : tBytes.rep Q w2 (Value.slice (some { block := w.heap.size, off := 0 }) k k) (List.replicate n 0) := by
 subst hk
 exact Sl.mkBytesB N.blk (by rw [List.length_replicate, List.take_of_length_le (by simp)]; simp [u8]) hq (by simp) (by simpa using hn) (by simp)
theorem New_fn {w : World} {n : Int} : Fn Tryz.prog 38 [i64 n] w (fun r w2 => ∃ v, r = .tuple #[v, i64 (newF n).2] ∧ tDisk.rep (fun k => w.heap.size ≤ k) w2 v (newF n).1 ∧ Ext (fun _ => False) w w2) := by
 refine Fn.enter (fun w => Tryz.call38 _ w) Tryz.func38 rfl ?_
 refine .seq (.region ?_)
 refine .v rfl rfl (.alloc rfl rfl) ?_
 rintro _ w2 ⟨rfl, N2⟩
 refine .p rfl rfl (.as rfl) (.nil (.code (.seq (.seq (.keep [(2, _), (0, _)] ⟨rfl, rfl, trivial⟩ (.region ?_))))))
 refine .p rfl rfl (.mv rfl) (.p rfl rfl (.lt rfl rfl) (.p rfl rfl (.mv rfl) ?_))
 refine .caseD 6 rfl (fun c6 => ?_) (fun c6 => ?_)
 ·refine .skip rfl rfl (.skip rfl rfl (.p rfl rfl (.pickT rfl rfl) (.nil (.code (.keep [(9, _), (2, _), (0, _)] ⟨rfl, rfl, rfl, trivial⟩ (.condT rfl (.seq (.keep [(2, _)] ⟨rfl, trivial⟩ (.region ?_)))))))))
  refine .p rfl rfl (.build (cs := [i64 0, .slice none 0 0, .slice none 0 0]) rfl (fun _ => by kernel_rfl)) (.s rfl (.storeAll (n := 3) rfl rfl rfl rfl rfl N2.blk rfl) ?_)
  intro w10 P10
  have X10 := N2.ext.then P10.ext (by rintro k rfl _; exact Nat.le_refl _)
  refine .p rfl rfl (.as rfl) (.nil (.code ?_))
  refine .retR (.cell (n := 3) rfl rfl rfl rfl rfl (P10.blk.cells) (.tmp rfl .nil)) ?_
  exact ⟨_, by unfold newF; rw [if_pos (by omega)]; rfl, by unfold newF; rw [if_pos (by omega)]; exact tDisk.mk (d := nodisk) Sl.nil Sl.nil (by decide), X10⟩
 ·refine .p rfl rfl (.mv rfl) (.p rfl rfl (.gt rfl rfl) (.p rfl rfl (.pickF rfl rfl) (.nil (.code (.keep [(9, _), (2, _), (0, _)] ⟨rfl, rfl, rfl, trivial⟩ ?_)))))
  refine .condD rfl (fun c9 => ?_) (fun c9 => ?_)
  ·refine .seq (.keep [(2, _)] ⟨rfl, trivial⟩ (.region ?_))
   refine .p rfl rfl (.build (cs := [i64 0, .slice none 0 0, .slice none 0 0]) rfl (fun _ => by kernel_rfl)) (.s rfl (.storeAll (n := 3) rfl rfl rfl rfl rfl N2.blk rfl) ?_)
   intro w10 P10
   have X10 := N2.ext.then P10.ext (by rintro k rfl _; exact Nat.le_refl _)
   refine .p rfl rfl (.as rfl) (.nil (.code ?_))
   refine .retR (.cell (n := 3) rfl rfl rfl rfl rfl (P10.blk.cells) (.tmp rfl .nil)) ?_
   exact ⟨_, by unfold newF; rw [if_pos (by omega)]; rfl, by unfold newF; rw [if_pos (by omega)]; exact tDisk.mk (d := nodisk) Sl.nil Sl.nil (by decide), X10⟩
  ·refine .skip (.code (.seq (.keep [(2, _), (0, _)] ⟨rfl, rfl, trivial⟩ (.region ?_))))
   refine .p rfl rfl (.mv rfl) (.p rfl rfl (.mv rfl) (.p rfl rfl (.mul rfl rfl (by omega)) (.v rfl rfl (.make (eb := 1) rfl rfl rfl rfl rfl rfl rfl rfl (by omega)) ?_)))
   rintro _ w14 ⟨rfl, N14⟩
   refine .p rfl rfl (.build (cs := [i64 n, .slice (some ⟨w2.heap.size, 0, none⟩) (n * 128).toNat (n * 128).toNat, .slice none 0 0]) rfl (fun _ => by kernel_rfl)) (.s rfl (.storeAll (n := 3) rfl rfl rfl rfl rfl (N2.blk.ext N14.ext (fun x => x)) rfl) ?_)
   intro w15 P15
   have X15 := (N2.ext.trans N14.ext).then P15.ext (by rintro k rfl _; exact Nat.le_refl _)
   have hz := N2.size
   refine .p rfl rfl (.as rfl) (.nil (.code ?_))
   refine .retR (.cell (n := 3) rfl rfl rfl rfl rfl (P15.blk.cells) (.tmp rfl .nil)) ?_
   have e : newF n = (⟨n, List.replicate (n * 128).toNat 0, []⟩, 0) := by unfold newF; rw [if_neg (by omega), show (n * 128).toNat = n.toNat * 128 by omega]
   rw [e]
   have R := zeros_own (Q := (· = w2.heap.size)) N14 (by simp only [Lim]; omega) rfl rfl
   have R2 := tBytes.ext R P15.ext (by rintro k rfl _ he; have he : w2.heap.size = w.heap.size := he; omega)
   exact ⟨_, rfl, tDisk.mk (d := ⟨n, List.replicate (n * 128).toNat 0, []⟩) (tBytes.mono R2 (by rintro k rfl _; show w.heap.size ≤ w2.heap.size; omega)) Sl.nil (by show -9223372036854775808 ≤ n ∧ n ≤ 9223372036854775807; omega), X15⟩
namespace disk
theorem last_some {ws : List disk.Put} {n : Int} {i : Nat} (hi : ws.length - 1 - i < ws.length) (hlt : i < ws.length) (hall : ∀ j (hj : ws.length - 1 - j < ws.length), j < i → ¬ (ws[ws.length - 1 - j]).sector = n) (h : (ws[ws.length - 1 - i]).sector = n) : lastOf ws n = some (ws[ws.length - 1 - i]).data := by
 unfold lastOf
 have : ws.reverse.find? (fun p => p.sector = n) = some ws[ws.length - 1 - i] := by
  rw [List.find?_eq_some_iff_getElem]
  refine ⟨by simpa using h, i, by simpa using hlt, by rw [List.getElem_reverse], fun j hj => ?_⟩
  rw [List.getElem_reverse]
  simpa using hall j (by omega) hj
 rw [this]
 rfl
theorem last_none {ws : List disk.Put} {n : Int} (hall : ∀ j (hj : ws.length - 1 - j < ws.length), j < ws.length → ¬ (ws[ws.length - 1 - j]).sector = n) : lastOf ws n = none := by
 unfold lastOf
 have : ws.reverse.find? (fun p => p.sector = n) = none := by
  rw [List.find?_eq_none]
  intro p hp
  rw [List.mem_reverse] at hp
  obtain ⟨k, hk, rfl⟩ := List.mem_iff_getElem.1 hp
  have := hall (ws.length - 1 - k) (by omega) (by omega)
  have e : ws.length - 1 - (ws.length - 1 - k) = k := by omega
  simp only [e] at this
  simpa using this
 rw [this]
 rfl
end disk
theorem DiskRead_fn {w : World} {v : Value} {d : Disk} {n : Int} (h : tDisk.rep All w v d) : Fn Tryz.prog 69 [v, i64 n] w (fun r w2 => ∃ s b, r = .tuple #[s, i64 (askedF d n)] ∧ Own tByte (fun _ => False) 5 w2 s (if askedF d n = 0 then readF d n else []) b ∧ w.heap.size ≤ b ∧ Ext (fun _ => False) w w2) := by
 obtain ⟨u, u', rfl, hd, hw, hc1, hc2⟩ := tDisk.val h
 obtain ⟨aw, capw, rfl, hcapw⟩ := Sl.val hw
 refine Fn.enter (fun w => Tryz.call69 _ w) Tryz.func69 rfl ?_
 refine .seq (.region ?_)
 refine .v rfl rfl (.box rfl) ?_
 rintro _ w2 ⟨rfl, N2⟩
 refine .p rfl rfl (.as rfl) (.p rfl rfl (.as rfl) (.nil (.code (.seq (.seq (.keep [(2, _), (1, _)] ⟨rfl, rfl, trivial⟩ (.region ?_)))))))
 refine .p rfl rfl (.loadA (n := 3) rfl rfl rfl rfl rfl N2.blk.cells) (.p rfl rfl (.mv rfl) (.call (first := []) (captured := []) rfl rfl rfl rfl (asked_fn (n := n) (tDisk.ext0 h N2.ext)) ?_))
 rintro _ w11 ⟨rfl, X11⟩
 have B11 := N2.blk.ext X11 (fun x => x)
 refine .p rfl rfl (.as rfl) (.nil (.code (.seq (.keep [(6, _), (2, _), (1, _)] ⟨rfl, rfl, rfl, trivial⟩ (.region ?_)))))
 refine .p rfl rfl (.mv rfl) (.p rfl rfl (.ne rfl rfl) (.nil (.code (.keep [(13, _), (6, _), (2, _), (1, _)] ⟨rfl, rfl, rfl, rfl, trivial⟩ ?_))))
 refine .condD rfl (fun c13 => ?_) (fun c13 => ?_)
 ·refine .seq (.keep [(6, _)] ⟨rfl, trivial⟩ (.region ?_))
  refine .p rfl rfl (.mv rfl) (.p rfl rfl (.as rfl) (.p rfl rfl (.as rfl) (.nil (.code ?_))))
  refine .ret _ rfl ?_
  exact ⟨_, w.heap.size, rfl, by rw [if_neg c13]; exact Own.nil, Nat.le_refl _, N2.ext.trans X11⟩
 ·have hA : askedF d n = 0 := Decidable.byContradiction c13
  have hA2 := hA
  unfold askedF at hA2
  split at hA2
  ·omega
  split at hA2
  ·omega
  rename_i hck hrg
  obtain ⟨k1, k2, k3, k4, k5⟩ := check_ok (Decidable.byContradiction hck)
  refine .skip (.code (.seq (.seq (.keep [(2, _), (1, _)] ⟨rfl, rfl, trivial⟩ (.region ?_)))))
  refine .p rfl rfl (.fieldAddr rfl rfl rfl rfl) (.p rfl rfl (.load rfl rfl rfl (B11.cell 2)) (.p rfl rfl (.len rfl rfl) (.p rfl rfl (.mv rfl) (.nil (.code (.block (.keep [(18, _), (17, _), (2, _), (1, _)] ⟨rfl, rfl, rfl, rfl, trivial⟩ ?_)))))))
  refine .loop (S := Nat × World) (fun s => [(2, .pointer (some ⟨w.heap.size, 0, none⟩)), (17, i64 d.waits.length), (18, i64 s.1), (1, i64 n)]) (fun s => s.2) (fun s => s.1 ≤ d.waits.length ∧ Ext (fun _ => False) w11 s.2 ∧ ∀ j (hj : d.waits.length - 1 - j < d.waits.length), j < s.1 → ¬ (d.waits[d.waits.length - 1 - j]).sector = n) (fun s => d.waits.length - s.1) (0, w11) ⟨rfl, rfl, rfl, rfl, trivial⟩ rfl ⟨Nat.zero_le _, .refl _, fun j hj h => absurd h (Nat.not_lt_zero _)⟩ ?_
  rintro ⟨i, wi⟩ J ⟨hi', hX, hall⟩ again
  simp only at hi' hX hall
  refine .seq (.region ?_)
  refine .p rfl rfl (.lt rfl rfl) (.nil (.code (.seq ?_)))
  refine .condD rfl (fun c19 => ?_) (fun c19 => ?_)
  ·have hil : i < d.waits.length := by omega
   have hi : d.waits.length - 1 - i < d.waits.length := by omega
   have Bi := B11.ext hX (fun x => x)
   obtain ⟨bw, ow, cw, ue, e, _, hcs, hre⟩ := Sl.at hw (List.getElem?_eq_getElem hi)
   cases e
   obtain ⟨ud, rfl, hud, hs1, hs2⟩ := tPut.val hre
   obtain ⟨ad, capd, rfl, _⟩ := Sl.val hud
   have hcs' := hcs.ext (N2.ext.trans (X11.trans hX)) (fun x => x)
   have e28 : ((d.waits.length : Int) - 1 - (i : Int)).toNat = d.waits.length - 1 - i := by omega
   refine .skip (.code (.seq (.block (.seq (.keep [(2, _), (17, _), (18, _), (1, _)] ⟨rfl, rfl, rfl, rfl, trivial⟩ (.region ?_))))))
   refine .p rfl rfl (.mv rfl) (.p rfl rfl (.as rfl) (.nil (.code (.seq (.keep [(7, _), (2, _), (17, _), (18, _), (1, _)] ⟨rfl, rfl, rfl, rfl, rfl, trivial⟩ (.region ?_))))))
   refine .p rfl rfl (.fieldAddr rfl rfl rfl rfl) (.p rfl rfl (.load rfl rfl rfl (Bi.cell 2)) (.p rfl rfl (.fieldAddr rfl rfl rfl rfl) (.p rfl rfl (.load rfl rfl rfl (Bi.cell 2)) (.p rfl rfl (.len rfl rfl) (.p rfl rfl (.sub rfl rfl (by omega)) (.p rfl rfl (.mv rfl) (.p rfl rfl (.sub rfl rfl (by omega)) (.p rfl rfl (.indexAddr (s := 2) rfl rfl rfl rfl (by omega)) (.p rfl rfl (.loadA (n := 2) rfl rfl rfl rfl rfl (by rw [e28]; exact hcs')) ?_)))))))))
   refine .v rfl rfl (.alloc rfl rfl) ?_
   rintro _ w8 ⟨rfl, N8⟩
   refine .s rfl (.storeAll (n := 2) rfl rfl rfl rfl rfl N8.blk rfl) ?_
   intro w9 P9
   have X9 := N8.ext.then P9.ext (by rintro k rfl _; exact Nat.le_refl _)
   have B9 := P9.blk
   refine .nil (.code (.seq (.keep [(8, _), (2, _), (17, _), (18, _), (1, _)] ⟨rfl, rfl, rfl, rfl, rfl, trivial⟩ (.region ?_))))
   refine .p rfl rfl (.fieldAddr rfl rfl rfl rfl) (.p rfl rfl (.load rfl rfl rfl (B9.cell 0)) (.p rfl rfl (.mv rfl) (.p rfl rfl (.eq rfl rfl) (.nil (.code (.keep [(34, _), (8, _), (2, _), (17, _), (18, _), (1, _)] ⟨rfl, rfl, rfl, rfl, rfl, rfl, trivial⟩ ?_))))))
   refine .condD rfl (fun c34 => ?_) (fun c34 => ?_)
   ·refine .seq (.keep [(8, _)] ⟨rfl, trivial⟩ (.region ?_))
    refine .p rfl rfl (.fieldAddr rfl rfl rfl rfl) (.p rfl rfl (.load rfl rfl rfl (B9.cell 1)) (.call (first := []) (captured := []) rfl rfl rfl rfl (bytesClone_fn (tBytes.ext0 hud (N2.ext.trans (X11.trans (hX.trans X9))))) ?_))
    rintro s37 w37 ⟨b37, O37, hb37, X37⟩
    refine .p rfl rfl (.as rfl) (.p rfl rfl (.as rfl) (.nil (.code ?_)))
    refine .ret _ rfl ?_
    have hl := last_some hi hil hall c34
    have hz := (N2.ext.trans (X11.trans (hX.trans X9))).size
    exact ⟨_, b37, by rw [hA]; rfl, by rw [if_pos hA, readF, hl]; exact O37, by omega, N2.ext.trans (X11.trans (hX.trans (X9.trans X37)))⟩
   ·refine .skip (.blk (.code (.keep [(2, _), (17, _), (18, _), (1, _)] ⟨rfl, rfl, rfl, rfl, trivial⟩ (.region ?_))))
    refine .p rfl rfl (.add rfl rfl (by omega)) (.p rfl rfl (.mv rfl) (.nil ?_))
    refine (again (i + 1, w9) ⟨by show i + 1 ≤ _; omega, hX.trans X9, fun j hj hlt => ?_⟩ (by show _ - (i + 1) < _ - i; omega)).of ⟨rfl, rfl, rfl, rfl, trivial⟩
    have hlt : j < i + 1 := hlt
    rcases Nat.lt_or_ge j i with h1 | h1
    ·exact hall j hj h1
    ·obtain rfl : j = i := by omega
     exact c34
  ·refine .exit rfl (.code (.seq (.keep [(2, _), (1, _)] ⟨rfl, rfl, trivial⟩ (.region ?_))))
   refine .p rfl rfl (.loadA (n := 3) rfl rfl rfl rfl rfl (B11.ext hX (fun x => x)).cells) (.p rfl rfl (.mv rfl) (.call (first := []) (captured := []) rfl rfl rfl rfl (Sure_fn (n := n) (tDisk.ext0 h (N2.ext.trans (X11.trans hX)))) ?_))
   rintro _ w41 ⟨s41, b41, rfl, O41, hb41, X41⟩
   refine .p rfl rfl (.extract rfl rfl) (.p rfl rfl (.extract rfl rfl) (.p rfl rfl (.as rfl) (.p rfl rfl (.as rfl) (.nil (.code ?_)))))
   refine .ret _ rfl ?_
   obtain rfl : i = d.waits.length := by omega
   have hl := last_none (n := n) hall
   have hz : w.heap.size ≤ wi.heap.size := (N2.ext.trans (X11.trans hX)).size
   have hb : wi.heap.size ≤ b41 := hb41
   rw [if_pos hA] at O41
   exact ⟨_, b41, rfl, by rw [if_pos hA, readF, hl]; exact O41, by omega, N2.ext.trans (X11.trans (hX.trans X41))⟩
end Go.Proofs.YtpfehnopghffjaaGreatDoor
namespace Go.Proofs.YtpfehnopghffjaaGreatDoor
open Go disk
theorem Own.keep {α : Type} {t : Ty α} {Q : Nat → Prop} {E : TypeId} {w w' : World} {v : Value} {xs : List α} {b : Nat} (h : Own t Q E w v xs b) (hb : w'.heap[b]? = w.heap[b]?) (hq : ∀ k, Q k → k < w.heap.size → w'.heap[k]? = w.heap[k]?) : Own t Q E w' v xs b := by
 obtain ⟨hl, h | ⟨cap, us, sp, hv, hc, he, hB, hn⟩⟩ := h
 ·exact ⟨hl, .inl h⟩
 ·exact ⟨hl, .inr ⟨cap, us, sp, hv, hc, he.imp (fun u x hu => t.keep hu hq), hB.keep hb, hn⟩⟩
theorem size_le_of {w w' : World} {b : Nat} (hb : w'.heap[b]? = w.heap[b]?) (h : b < w.heap.size) : b < w'.heap.size := by
 rcases Nat.lt_or_ge b w'.heap.size with h' | h'
 ·exact h'
 ·rw [Array.getElem?_eq_none h'] at hb
  simp [h] at hb
def tOwnB : Ty Bs where
 size := 1
 rep P w v l := OwnO tByte (fun _ => False) 5 w v l P
 sz := by rintro P w v l h; obtain ⟨a, cap, rfl, _⟩ := h.val; rfl
 one := by rintro P w v l h u hu; obtain ⟨a, cap, rfl, _⟩ := h.val; simp [Value.cells] at hu; subst hu; rfl
 keep := by
  rintro P w w' v l h hk
  rcases h with h | ⟨b, h1, h2, h3⟩
  ·exact .inl h
  ·exact .inr ⟨b, h1, size_le_of (hk b h1 h2) h2, h3.keep (hk b h1 h2) (fun _ h _ => h.elim)⟩
 mono := fun h hk => OwnO.mono h (fun _ h _ => h) hk
theorem tOwnB.weak {P : Nat → Prop} {w : World} {v : Value} {l : Bs} (h : tOwnB.rep P w v l) : tBytes.rep P w v l := OwnO.rep h (fun _ h _ => h) (fun _ h _ => h.elim)
namespace disk
def tPutO : Ty Put := (tInt.pair tOwnB).map (fun p => (p.sector, p.data))
theorem tOwnB_one {P : Nat → Prop} {w : World} {u : Value} {l : Bs} (h : tOwnB.rep P w u l) : u.cells = #[u] := by obtain ⟨a, cap, rfl, _⟩ := OwnO.val h; rfl
theorem tPutO.val {P : Nat → Prop} {w : World} {v : Value} {p : Put} (h : tPutO.rep P w v p) : ∃ u, v = .agg #[i64 p.sector, u] ∧ tOwnB.rep P w u p.data ∧ -9223372036854775808 ≤ p.sector ∧ p.sector ≤ 9223372036854775807 := by
 obtain ⟨u, u', rfl, ⟨rfl, h1⟩, h2⟩ := h
 refine ⟨u', ?_, h2, h1⟩
 rw [tOwnB_one h2]
 rfl
theorem tPutO.mk {P : Nat → Prop} {w : World} {p : Put} {u : Value} (h : tOwnB.rep P w u p.data) (h1 : -9223372036854775808 ≤ p.sector ∧ p.sector ≤ 9223372036854775807) : tPutO.rep P w (.agg #[i64 p.sector, u]) p := by
 refine ⟨i64 p.sector, u, ?_, ⟨rfl, h1⟩, h⟩
 rw [tOwnB_one h]
 rfl
theorem tPutO.weak {P : Nat → Prop} {w : World} {v : Value} {p : Put} (h : tPutO.rep P w v p) : tPut.rep P w v p := by
 obtain ⟨u, u', rfl, h1, h2⟩ := h
 exact ⟨u, u', rfl, h1, tOwnB.weak h2⟩
def OwnD (w : World) (v : Value) (d : Disk) (P : Nat → Prop) : Prop :=
 ∃ u u' bd bw Q, v = .agg #[i64 d.count, u, u'] ∧ (-9223372036854775808 ≤ d.count ∧ d.count ≤ 9223372036854775807) ∧ Own tByte (fun _ => False) 5 w u d.data bd ∧ Own tPutO Q 76 w u' d.waits bw ∧ (bd < w.heap.size ∧ bw < w.heap.size ∧ bd ≠ bw ∧ P bd ∧ P bw) ∧ ∀ k, Q k → k < w.heap.size → P k ∧ k ≠ bd ∧ k ≠ bw
end disk
theorem Sl.imp {α : Type} {t t' : Ty α} {P : Nat → Prop} {w : World} {v : Value} {xs : List α} (h : (Sl t).rep P w v xs) (hr : ∀ u x, t.rep P w u x → t'.rep P w u x) : (Sl t').rep P w v xs := by
 obtain ⟨hl, a, cap, rfl, hc, h | ⟨b, o, us, rfl, hb, hlt, he, hcs⟩⟩ := h
 ·exact ⟨hl, a, cap, rfl, hc, .inl h⟩
 ·exact ⟨hl, _, cap, rfl, hc, .inr ⟨b, o, us, rfl, hb, hlt, he.imp hr, hcs⟩⟩
namespace disk
theorem OwnD.rep {w : World} {v : Value} {d : Disk} {P : Nat → Prop} (h : OwnD w v d P) : tDisk.rep P w v d := by
 obtain ⟨u, u', bd, bw, Q, rfl, hr, h1, h2, ⟨l1, l2, ne, p1, p2⟩, hq⟩ := h
 exact tDisk.mk (h1.rep p1 (fun _ h _ => h.elim)) (Sl.imp (h2.rep p2 (fun k h hk => (hq k h hk).1)) (fun u x h => tPutO.weak h)) hr
theorem OwnD.ext {S : Nat → Prop} {w w' : World} {v : Value} {d : Disk} {P : Nat → Prop} (h : OwnD w v d P) (hx : Ext S w w') (hs : ∀ k, P k → k < w.heap.size → ¬ S k) : OwnD w' v d P := by
 obtain ⟨u, u', bd, bw, Q, rfl, hr, h1, h2, ⟨l1, l2, ne, p1, p2⟩, hq⟩ := h
 refine ⟨u, u', bd, bw, fun k => Q k ∧ k < w.heap.size, rfl, hr, h1.ext hx (hs bd p1 l1) (fun _ h _ => h.elim), (h2.mono (fun k a b => (⟨a, b⟩ : Q k ∧ k < w.heap.size))).ext hx (hs bw p2 l2) (fun k a _ => hs k (hq k a.1 a.2).1 a.2), ⟨?_, ?_, ne, p1, p2⟩, fun k a _ => hq k a.1 a.2⟩
 ·exact Nat.lt_of_lt_of_le l1 hx.size
 ·exact Nat.lt_of_lt_of_le l2 hx.size
theorem OwnD.ext0 {w w' : World} {v : Value} {d : Disk} {P : Nat → Prop} (h : OwnD w v d P) (hx : Ext (fun _ => False) w w') : OwnD w' v d P := h.ext hx (fun _ _ _ x => x)
theorem OwnD.mono {w : World} {v : Value} {d : Disk} {P P' : Nat → Prop} (h : OwnD w v d P) (hp : ∀ k, P k → k < w.heap.size → P' k) : OwnD w v d P' := by
 obtain ⟨u, u', bd, bw, Q, rfl, hr, h1, h2, ⟨l1, l2, ne, p1, p2⟩, hq⟩ := h
 exact ⟨u, u', bd, bw, Q, rfl, hr, h1, h2, ⟨l1, l2, ne, hp _ p1 l1, hp _ p2 l2⟩, fun k a b => ⟨hp k (hq k a b).1 b, (hq k a b).2⟩⟩
end disk
theorem Own.blk {Q : Nat → Prop} {E : TypeId} {w : World} {v : Value} {l : Bs} {b : Nat} (h : Own tByte Q E w v l b) (hne : l ≠ []) : ∃ cap sp, v = .slice (some ⟨b, 0, none⟩) l.length cap ∧ l.length ≤ cap ∧ Blk w b E (l.map u8 ++ sp) ∧ l.length + sp.length = cap := by
 obtain ⟨hl, ⟨rfl, rfl⟩ | ⟨cap, us, sp, rfl, hc, he, hB, hn⟩⟩ := h
 ·exact absurd rfl hne
 ·have hu : us = l.map u8 := Each.eq_map u8 he
  subst hu
  rw [flat_u8] at hB hn
  exact ⟨cap, sp, rfl, hc, hB, by rw [List.length_append, List.length_map] at hn; have : tByte.size = 1 := rfl; rw [this] at hn; omega⟩
theorem Own.ofBlk {Q : Nat → Prop} {E : TypeId} {w : World} {l : Bs} {b cap n : Nat} {sp : List Value} (hB : Blk w b E (l.map u8 ++ sp)) (hl : l.length < Lim) (hn : n = l.length) (hc : l.length + sp.length = cap) : Own tByte Q E w (.slice (some ⟨b, 0, none⟩) n cap) l b := by
 subst hn
 refine ⟨hl, .inr ⟨cap, l.map u8, sp, rfl, by omega, each_u8 l, by rw [flat_u8]; exact hB, ?_⟩⟩
 rw [flat_u8, List.length_append, List.length_map]
 have : tByte.size = 1 := rfl
 rw [this]
 omega
def HalfAt (w : World) (b cap : Nat) (E : TypeId) (xs : List disk.Put) (Q0 Q1 : Nat → Prop) (i : Nat) : Prop :=
 ∃ us sp, Each (tPutO.rep Q1 w) (us.take i) (xs.take i) ∧ Each (tPut.rep Q0 w) (us.drop i) (xs.drop i) ∧ us.length = xs.length ∧ Blk w b E (flat us ++ sp) ∧ (flat us ++ sp).length = cap * 2
section
variable {w w1 : World} {b cap : Nat} {E : TypeId} {xs : List disk.Put} {Q0 Q1 : Nat → Prop} {i : Nat}
theorem HalfAt.sizes {us : List Value} (h1 : Each (tPutO.rep Q1 w) (us.take i) (xs.take i)) (h2 : Each (tPut.rep Q0 w) (us.drop i) (xs.drop i)) : ∀ x ∈ us, x.cells.size = 2 := by
 intro x hx
 rw [← List.take_append_drop i us, List.mem_append] at hx
 rcases hx with hx | hx
 ·exact h1.mem (n := 2) (fun u y h => tPutO.sz h) x hx
 ·exact h2.mem (n := 2) (fun u y h => tPut.sz h) x hx
theorem HalfAt.elem (h : HalfAt w b cap E xs Q0 Q1 i) (hi : i < xs.length) : ∃ ud, tBytes.rep Q0 w ud xs[i].data ∧ w.cell? ⟨b, i * 2 + 1, none⟩ = some ud := by
 obtain ⟨us, sp, h1, h2, hl, hB, hn⟩ := h
 have hsz := HalfAt.sizes h1 h2
 have hget : (xs.drop i)[0]? = some xs[i] := by rw [List.getElem?_drop]; simp [hi]
 obtain ⟨u, hu, hr⟩ := h2.get hget
 obtain ⟨ud, rfl, hud, _⟩ := tPut.val hr
 refine ⟨ud, hud, ?_⟩
 have hlt : i < us.length := by omega
 have hui : us[i] = .agg #[i64 xs[i].sector, ud] := by
  rw [List.getElem?_drop] at hu
  simp [hlt] at hu
  exact hu
 have e : (flat us).drop (i * 2) = i64 xs[i].sector :: ud :: flat (us.drop (i + 1)) := by
  rw [← flat_drop i hsz, List.drop_eq_getElem_cons hlt, flat_cons, hui]
  rfl
 rw [hB.cell]
 have hfl := flat_length hsz
 rw [List.getElem?_append_left (by rw [hfl]; omega)]
 have : ((flat us).drop (i * 2))[1]? = some ud := by rw [e]; rfl
 rwa [List.getElem?_drop] at this
theorem HalfAt.put (h : HalfAt w b cap E xs Q0 Q1 i) (hi : i < xs.length) (hx : Ext (fun _ => False) w w1) {r : Value} (hr : tOwnB.rep Q1 w1 r xs[i].data) (hq0 : ∀ k, Q0 k → k ≠ b) (hq1 : ∀ k, Q1 k → k ≠ b) :
  ∃ cs, Blk w1 b E cs ∧ i * 2 + 1 < cs.length ∧ ∀ w2, Go.Proofs.YtpfehnopghffjaaGreatDoor.Put w1 w2 b E (cs.set (i * 2 + 1) r) → HalfAt w2 b cap E xs Q0 Q1 (i + 1) := by
 obtain ⟨us, sp, h1, h2, hl, hB, hn⟩ := h
 have hsz := HalfAt.sizes h1 h2
 have hlt : i < us.length := by omega
 have hfl := flat_length hsz
 have hget : (xs.drop i)[0]? = some xs[i] := by rw [List.getElem?_drop]; simp [hi]
 obtain ⟨u, hu, hre⟩ := h2.get hget
 obtain ⟨ud, rfl, hud, hs⟩ := tPut.val hre
 have hui : us[i]? = some (.agg #[i64 xs[i].sector, ud]) := by
  rw [List.getElem?_drop] at hu
  simpa using hu
 refine ⟨flat us ++ sp, hB.ext hx (fun x => x), by rw [List.length_append, hfl]; omega, fun w2 P => ?_⟩
 have e : (flat us ++ sp).set (i * 2 + 1) r = flat (us.set i (.agg #[i64 xs[i].sector, r])) ++ sp := by
  rw [List.set_append_left _ _ (by rw [hfl]; omega), flat_set (n := 2) i 1 r (.agg #[i64 xs[i].sector, r]) hsz (by omega)]
  intro x hx'
  rw [hui] at hx'
  cases hx'
  rfl
 have hblk := P.blk
 rw [e] at hblk
 refine ⟨us.set i (.agg #[i64 xs[i].sector, r]), sp, ?_, ?_, by simpa using hl, hblk, ?_⟩
 ·have e1 : (us.set i (.agg #[i64 xs[i].sector, r])).take (i + 1) = us.take i ++ [.agg #[i64 xs[i].sector, r]] := by
   rw [List.take_succ_eq_append_getElem (by simpa using hlt), List.take_set_of_le (Nat.le_refl _)]
   simp
  rw [e1, List.take_succ_eq_append_getElem hi]
  refine Each.append (h1.imp (fun u x hh => tPutO.ext (tPutO.ext0 hh hx) P.ext (fun k hk _ => hq1 k hk))) (.cons ?_ .nil)
  exact tPutO.mk (tOwnB.ext hr P.ext (fun k hk _ => hq1 k hk)) hs
 ·rw [List.drop_set_of_lt (by omega)]
  have h3 := h2.drop 1
  rw [List.drop_drop, List.drop_drop] at h3
  exact h3.imp (fun u x hh => tPut.ext (tPut.ext0 hh hx) P.ext (fun k hk _ => hq0 k hk))
 ·rw [← e, List.length_set, hn]
theorem HalfAt.first {us sp : List Value} (h : Each (tPut.rep Q0 w) us xs) (hB : Blk w b E (flat us ++ sp)) (hn : (flat us ++ sp).length = cap * 2) : HalfAt w b cap E xs Q0 Q1 0 :=
 ⟨us, sp, .nil, h, h.length, hB, hn⟩
theorem HalfAt.ext0 (h : HalfAt w b cap E xs Q0 Q1 i) (hx : Ext (fun _ => False) w w1) : HalfAt w1 b cap E xs Q0 Q1 i := by
 obtain ⟨us, sp, h1, h2, hl, hB, hn⟩ := h
 exact ⟨us, sp, h1.imp (fun u x hh => tPutO.ext0 hh hx), h2.imp (fun u x hh => tPut.ext0 hh hx), hl, hB.ext hx (fun x => x), hn⟩
end
def HalfO (w : World) (v : Value) (E : TypeId) (xs : List disk.Put) (Q0 Q1 B : Nat → Prop) (i : Nat) : Prop :=
 (xs = [] ∧ v = .slice none 0 0) ∨ ∃ b cap, v = .slice (some ⟨b, 0, none⟩) xs.length cap ∧ xs.length ≤ cap ∧ B b ∧ xs.length < Lim ∧ HalfAt w b cap E xs Q0 Q1 i
theorem HalfO.first {w : World} {v : Value} {E : TypeId} {xs : List disk.Put} {Q0 Q1 B : Nat → Prop} (h : OwnO tPut Q0 E w v xs B) : HalfO w v E xs Q0 Q1 B 0 := by
 rcases h with h | ⟨b, h1, h2, hl, ⟨rfl, rfl⟩ | ⟨cap, us, sp, rfl, hc, he, hB, hn⟩⟩
 ·exact .inl h
 ·exact .inl ⟨rfl, rfl⟩
 ·exact .inr ⟨b, cap, rfl, hc, h1, hl, HalfAt.first he hB hn⟩
theorem HalfO.ext0 {w w1 : World} {v : Value} {E : TypeId} {xs : List disk.Put} {Q0 Q1 B : Nat → Prop} {i : Nat} (h : HalfO w v E xs Q0 Q1 B i) (hx : Ext (fun _ => False) w w1) : HalfO w1 v E xs Q0 Q1 B i := by
 rcases h with h | ⟨b, cap, rfl, hc, hb, hl, h⟩
 ·exact .inl h
 ·exact .inr ⟨b, cap, rfl, hc, hb, hl, h.ext0 hx⟩
theorem OwnB.of {w : World} {v : Value} {l : Bs} {b : Nat} {P : Nat → Prop} (h : Own tByte (fun _ => False) 5 w v l b) (hb : P b) : tOwnB.rep P w v l := OwnO.of h hb
end Go.Proofs.YtpfehnopghffjaaGreatDoor
namespace Go.Proofs.YtpfehnopghffjaaGreatDoor
open Go disk
namespace disk
theorem OwnD.none {w : World} {P : Nat → Prop} {b1 b2 : Nat} (h1 : b1 < w.heap.size) (h2 : b2 < w.heap.size) (hne : b1 ≠ b2) (p1 : P b1) (p2 : P b2) : OwnD w (.agg #[i64 0, .slice none 0 0, .slice none 0 0]) nodisk P :=
 ⟨_, _, b1, b2, fun _ => False, rfl, by decide, Own.nil, Own.nil, ⟨h1, h2, hne, p1, p2⟩, fun k h _ => h.elim⟩
theorem OwnD.val {w : World} {v : Value} {d : Disk} {P : Nat → Prop} (h : OwnD w v d P) : ∃ a1 c1 a2 c2, v = .agg #[i64 d.count, .slice a1 d.data.length c1, .slice a2 d.waits.length c2] := by
 obtain ⟨u, u', bd, bw, Q, rfl, hr, h1, h2, _⟩ := h
 obtain ⟨a1, c1, rfl, _⟩ := h1.val
 obtain ⟨a2, c2, rfl, _⟩ := h2.val
 exact ⟨a1, c1, a2, c2, rfl⟩
end disk
end Go.Proofs.YtpfehnopghffjaaGreatDoor
namespace Go.Proofs.YtpfehnopghffjaaGreatDoor
open Go disk
namespace disk
theorem check_no {d : Disk} (h : ¬ checkF d = 0) : checkF d = 20 := by
 unfold checkF at h ⊢
 split
 ·rfl
 ·rename_i c1
  rw [if_neg c1] at h
  split
  ·rename_i c2; rw [if_pos c2] at h; exact absurd rfl h
  ·rfl
theorem tAct.mk {P : Nat → Prop} {w : World} {a : Act} {u : Value} (h : tBytes.rep P w u a.put.data) (h1 : -9223372036854775808 ≤ a.put.sector ∧ a.put.sector ≤ 9223372036854775807) : tAct.rep P w (.agg #[.bool a.flush, i64 a.put.sector, u]) a := by
 refine ⟨.bool a.flush, .agg #[i64 a.put.sector, u], ?_, rfl, tPut.mk h h1⟩
 rfl
end disk
end Go.Proofs.YtpfehnopghffjaaGreatDoor
