import Derived.Test.YthliepcjfnjnoaaGreatDoorB01
import Derived.Laws.Cover3
set_option linter.unusedVariables false
set_option linter.unusedSimpArgs false
namespace Go.Proofs.YthliepcjfnjnoaaGreatDoor
open Go
def doesUpon (P : Program) (K : Value → World → Prop) : Result Next → Prop
  | .ok (.value v) w' => K v w'
  | .ok .skip w' => K undef w'
  | .ok (.enter f args) w' => Calls P f args w' fun
      | .returned v, w'' => K v w''
      | _, _ => False
  | _ => False
def does (P : Program) (o : Oper) (a : Act) (w : World) (K : Value → World → Prop) : Prop := doesUpon P K ((execOp a.eval o).run P w)
theorem does.mono {P : Program} {o : Oper} {a : Act} {w : World} {K K' : Value → World → Prop} (h : ∀ v w, K v w → K' v w) (hd : does P o a w K) : does P o a w K' := by
  unfold does at *
  generalize (execOp a.eval o).run P w = r at *
  cases r with
  | ok n w' =>
    cases n <;> simp only [doesUpon] at hd ⊢
    case value v => exact h _ _ hd
    case skip => exact h _ _ hd
    case enter f args => exact hd.mono fun e w'' he => by cases e <;> first | exact h _ _ he | exact he
  | halt x w' => simp only [doesUpon] at hd
theorem does.some {P : Program} {o : Oper} {a : Act} {w : World} {K : Value → World → Prop} (hd : does P o a w K) : ∃ v w', K v w' := by
  unfold does at *
  generalize (execOp a.eval o).run P w = r at *
  cases r with
  | ok n w' =>
    cases n <;> simp only [doesUpon] at hd
    case value v => exact ⟨_, _, hd⟩
    case skip => exact ⟨_, _, hd⟩
    case enter f args =>
      obtain ⟨e, w'', _, hR, _⟩ := hd []
      cases e with
      | returned v => exact ⟨_, _, hR⟩
      | panicked c => exact hR.elim
      | outgrown => exact hR.elim
  | halt x w' => simp only [doesUpon] at hd
theorem does.wp {P : Program} {o : Oper} {a : Act} {w : World} {K : Value → World → Prop} {K' : Act → World → Prop} {Q : Exit → Act → World → Prop} (h : ∀ v w, K v w → K' (a.put o.dst v) w) (hd : does P o a w K) : o.wp P a w K' Q := by
  unfold does at hd
  unfold Oper.wp
  generalize (execOp a.eval o).run P w = r at *
  cases r with
  | ok n w' =>
    cases n <;> simp only [doesUpon] at hd <;> simp only [Oper.upon]
    case value v => exact h _ _ hd
    case skip => exact h _ _ hd
    case enter f args =>
      exact hd.mono fun e w'' he => by
        cases e with
        | returned v => exact h _ _ he
        | panicked c => exact he.elim
        | outgrown => exact he.elim
  | halt x w' => simp only [doesUpon] at hd
section
variable {P : Program} {ops : Array Oper} {md : Region.Mode} {C : World → Prop} {act : Nat → Bool}
def ons (md : Region.Mode) (ops : Array Oper) (k : Nat) : List Nat := match ops[k]? with
  | some o => (o.after.toList.filter (Region.binds md)).map (·.on)
  | none => []
def closeB (md : Region.Mode) (ops : Array Oper) : Nat → List Nat → List Nat
  | 0, pend => pend
  | k + 1, pend => bif pend.contains k then closeB md ops k (ons md ops k ++ pend) else closeB md ops k pend
def waitsB (md : Region.Mode) (ops : Array Oper) (_ : Nat) (j i : Nat) : Bool := (closeB md ops j (ons md ops j)).contains i
inductive Waits (md : Region.Mode) (ops : Array Oper) (j : Nat) : Nat → Prop where
  | hop {i : Nat} : i ∈ ons md ops j → Waits md ops j i
  | step {k i : Nat} : Waits md ops j k → i ∈ ons md ops k → Waits md ops j i
theorem closeB_sound {j : Nat} : ∀ (k : Nat) (pend : List Nat), (∀ x ∈ pend, Waits md ops j x) → ∀ x ∈ closeB md ops k pend, Waits md ops j x
  | 0, pend, h => h
  | k + 1, pend, h => by
    unfold closeB
    cases hk : pend.contains k with
    | false => exact closeB_sound k pend h
    | true =>
      refine closeB_sound k _ (fun x hx => ?_)
      rcases List.mem_append.1 hx with hx | hx
      · exact .step (h k (by simpa using hk)) hx
      · exact h x hx
theorem waitsB_sound {n j i : Nat} (h : waitsB md ops n j i = true) : Waits md ops j i :=
  closeB_sound j _ (fun x hx => .hop hx) i (by unfold waitsB at h; simpa using h)
def freeO (o : Oper) : Bool := match o.op with
  | .move _ => true
  | _ => false
theorem freeO_run {P : Program} {o : Oper} (h : freeO o = true) {ρ : Operand → Value} {v : Value} {w : World} (hr : (execOp ρ o).run P w = .ok (.value v) w) (w2 : World) : (execOp ρ o).run P w2 = .ok (.value v) w2 := by
  obtain ⟨d, op, t, p, af, g⟩ := o
  cases op <;> simp only [freeO] at h <;> try cases h
  simp [execOp] at hr ⊢
  exact hr
def freeB (ops : Array Oper) (act : Nat → Bool) (j : Nat) : Bool := !act j && (match ops[j]? with
  | some o => freeO o
  | none => false)
theorem freeB_run {ops : Array Oper} {act : Nat → Bool} {j : Nat} (h : freeB ops act j = true) {o : Oper} (ho : ops[j]? = some o) {P : Program} {ρ : Operand → Value} {v : Value} {w : World} (hr : (execOp ρ o).run P w = .ok (.value v) w) (w2 : World) : (execOp ρ o).run P w2 = .ok (.value v) w2 := by
  unfold freeB at h
  rw [ho] at h
  simp only [Bool.and_eq_true] at h
  exact freeO_run h.2 hr w2
theorem freeB_act {ops : Array Oper} {act : Nat → Bool} {j : Nat} (h : freeB ops act j = true) : ¬ act j = true := by
  unfold freeB at h
  simp only [Bool.and_eq_true, Bool.not_eq_true'] at h
  rw [h.1]
  exact Bool.false_ne_true
def finB (md : Region.Mode) (ops : Array Oper) (act : Nat → Bool) (i : Nat) : Bool := (List.range ops.size).all fun j => j == i || freeB ops act j || waitsB md ops ops.size i j || (waitsB md ops ops.size j i && (List.range ops.size).all fun k => k == j || k == i || freeB ops act k || waitsB md ops ops.size i k || waitsB md ops ops.size j k || waitsB md ops ops.size k j)
def Lin (md : Region.Mode) (ops : Array Oper) (act : Nat → Bool) (listed : Array Bool) : Prop :=
  ∀ j k, j < ops.size → k < ops.size → j ≠ k → listed.getD j false = false → listed.getD k false = false → (freeB ops act j = true ∨ freeB ops act k = true) ∨ waitsB md ops ops.size j k = true ∨ waitsB md ops ops.size k j = true
theorem finB_spec {i j : Nat} (h : finB md ops act i = true) (hj : j < ops.size) (hne : j ≠ i) : freeB ops act j = true ∨ waitsB md ops ops.size i j = true ∨ (waitsB md ops ops.size j i = true ∧ ∀ k, k < ops.size → k ≠ j → k ≠ i → freeB ops act k = true ∨ waitsB md ops ops.size i k = true ∨ waitsB md ops ops.size j k = true ∨ waitsB md ops ops.size k j = true) := by
  unfold finB at h
  rw [List.all_eq_true] at h
  have := h j (List.mem_range.2 hj)
  rw [Bool.or_eq_true, Bool.or_eq_true, Bool.or_eq_true, Bool.and_eq_true, List.all_eq_true] at this
  rcases this with ((h1 | h1) | h1) | ⟨h1, h2⟩
  · exact absurd (by simpa using h1) hne
  · exact .inl h1
  · exact .inr (.inl h1)
  · refine .inr (.inr ⟨h1, fun k hk hkj hki => ?_⟩)
    have := h2 k (List.mem_range.2 hk)
    simpa [hkj, hki, or_assoc] using this
def mOp (P : Program) (md : Region.Mode) (ops : Array Oper) (C : World → Prop) (act : Nat → Bool) (i : Nat) (K : Act → World → Prop) (a : Act) (w : World) : Prop :=
  match ops[i]? with
  | none => K a w
  | some o =>
    if Region.wanted o (yielded ops a.tmps) then
      (if act i then does P o a w (fun v w' => (C w' ∨ finB md ops act i = true) ∧ K (a.put o.dst v) w')
       else ∃ v, (∀ w2, C w2 ∨ w2 = w → (execOp a.eval o).run P w2 = .ok (.value v) w2) ∧ K (a.put o.dst v) w)
    else K (a.put o.dst undef) w
theorem mOp_mono {i : Nat} {K K' : Act → World → Prop} {a : Act} {w : World} (h : ∀ a w, K a w → K' a w) (hh : mOp P md ops C act i K a w) : mOp P md ops C act i K' a w := by
  unfold mOp at *
  split
  · exact h _ _ (by simpa [*] using hh)
  · rename_i o ho
    simp only [ho] at hh
    split
    · rename_i hw
      simp only [hw, if_true] at hh
      split
      · rename_i ha; simp only [ha, if_true] at hh; exact hh.mono fun v w ⟨h1, h2⟩ => ⟨h1, h _ _ h2⟩
      · rename_i ha; simp only [ha] at hh; obtain ⟨v, h1, h2⟩ := hh; exact ⟨v, h1, h _ _ h2⟩
    · rename_i hw; simp only [hw] at hh; exact h _ _ hh
def wpAnyM (P : Program) (md : Region.Mode) (ops : Array Oper) (C : World → Prop) (act : Nat → Bool) (Q : Act → World → Prop) : Nat → Array Bool → Act → World → Prop
  | 0, listed, a, w => Region.ready md ops listed = [] ∧ Q a w
  | fuel + 1, listed, a, w =>
    (Region.ready md ops listed = [] → Q a w) ∧
    ∀ i ∈ Region.ready md ops listed, mOp P md ops C act i (wpAnyM P md ops C act Q fuel (listed.setIfInBounds i true)) a w
def Closed (md : Region.Mode) (ops : Array Oper) (listed : Array Bool) : Prop :=
  listed.size = ops.size ∧ ∀ j oj, ops[j]? = some oj → listed.getD j false = true → ∀ e ∈ oj.after, Region.binds md e = true → listed.getD e.on false = true
theorem hop_unlisted {listed : Array Bool} (hc : Closed md ops listed) {i j : Nat} (hi : listed.getD i false = false) (h : i ∈ ons md ops j) : listed.getD j false = false ∧ j ∉ Region.ready md ops listed := by
  unfold ons at h
  split at h
  · rename_i oj hj
    obtain ⟨e, he, rfl⟩ := List.mem_map.1 h
    obtain ⟨he, hb⟩ := List.mem_filter.1 he
    have he : e ∈ oj.after := by simpa using he
    refine ⟨?_, fun hready => ?_⟩
    · cases hl : listed.getD j false with
      | false => rfl
      | true => have := hc.2 j oj hj hl e he hb; rw [hi] at this; cases this
    · obtain ⟨_, o', ho', hall⟩ := mem_ready.1 hready
      have : o' = oj := Option.some.inj (ho'.symm.trans hj)
      subst this
      have := hall e he hb
      rw [hi] at this; cases this
  · cases h
theorem waits_unlisted {listed : Array Bool} (hc : Closed md ops listed) {i : Nat} (hi : listed.getD i false = false) (n j : Nat) (h : waitsB md ops n j i = true) : listed.getD j false = false ∧ j ∉ Region.ready md ops listed := by
  have key : ∀ i, Waits md ops j i → listed.getD i false = false → listed.getD j false = false ∧ j ∉ Region.ready md ops listed := by
    intro i hw
    induction hw with
    | hop h => exact fun hi => hop_unlisted hc hi h
    | step _ h ih => exact fun hi => ih (hop_unlisted hc hi h).1
  exact key i (waitsB_sound h) hi
theorem Closed.set {listed : Array Bool} (hc : Closed md ops listed) {j : Nat} (hj : j ∈ Region.ready md ops listed) : Closed md ops (listed.setIfInBounds j true) := by
  obtain ⟨_, oj, hoj, hall⟩ := mem_ready.1 hj
  refine ⟨by simp [hc.1], fun k ok hk hl e he hb => ?_⟩
  by_cases hjk : j = k
  · subst hjk
    have : ok = oj := Option.some.inj (hk.symm.trans hoj)
    subst this
    exact getD_set_true (hall e he hb)
  · rw [getD_set_ne false hjk] at hl
    exact getD_set_true (hc.2 k ok hk hl e he hb)
theorem ready_lt {listed : Array Bool} {i : Nat} (hi : i ∈ Region.ready md ops listed) : i < ops.size := by
  obtain ⟨_, oi, hoi, _⟩ := mem_ready.1 hi
  exact (Array.getElem?_eq_some_iff.1 hoi).1
theorem ready_un {listed : Array Bool} {i : Nat} (hi : i ∈ Region.ready md ops listed) : listed.getD i false = false := by
  have hjun := (mem_ready.1 hi).1
  rcases Nat.lt_or_ge i listed.size with h' | h'
  · simp [h'] at hjun ⊢; exact hjun
  · simp [Array.getElem?_eq_none h'] at hjun
theorem set_un {listed : Array Bool} {i k : Nat} (h : (listed.setIfInBounds i true).getD k false = false) : listed.getD k false = false := by
  cases h' : listed.getD k false with
  | false => rfl
  | true => rw [getD_set_true h'] at h; cases h
theorem Lin.set {listed : Array Bool} {i : Nat} (h : Lin md ops act listed) : Lin md ops act (listed.setIfInBounds i true) :=
  fun j k hj hk hn h1 h2 => h j k hj hk hn (set_un h1) (set_un h2)
theorem lin_two {listed : Array Bool} (hc : Closed md ops listed) {i j : Nat} (hi : i ∈ Region.ready md ops listed) (hj : j ∈ Region.ready md ops listed) (hn : j ≠ i) (h : Lin md ops act listed) : freeB ops act j = true ∨ freeB ops act i = true := by
  rcases h j i (ready_lt hj) (ready_lt hi) hn (ready_un hj) (ready_un hi) with h | h | h
  · exact h
  · exact absurd hj (waits_unlisted hc (ready_un hi) _ _ h).2
  · exact absurd hi (waits_unlisted hc (ready_un hj) _ _ h).2
theorem fin_two {listed : Array Bool} (hc : Closed md ops listed) {i j : Nat} (hi : i ∈ Region.ready md ops listed) (hj : j ∈ Region.ready md ops listed) (hn : j ≠ i) (h : finB md ops act i = true) : freeB ops act j = true := by
  rcases finB_spec h (ready_lt hj) hn with h | h | ⟨h, _⟩
  · exact h
  · exact absurd hi (waits_unlisted hc (ready_un hj) _ _ h).2
  · exact absurd hj (waits_unlisted hc (ready_un hi) _ _ h).2
theorem fin_lin {listed : Array Bool} (hc : Closed md ops listed) {i : Nat} (hi : i ∈ Region.ready md ops listed) (hf : finB md ops act i = true) : Lin md ops act (listed.setIfInBounds i true) := by
  have hil : i < listed.size := by rw [hc.1]; exact ready_lt hi
  have hni : ∀ j, (listed.setIfInBounds i true).getD j false = false → j ≠ i := fun j h => by
    rintro rfl
    rw [Array.getD_eq_getD_getElem?, Array.getElem?_setIfInBounds_self_of_lt hil] at h
    cases h
  intro j k hj hk hn h1 h2
  have hji := hni j h1
  have hki := hni k h2
  rcases finB_spec hf hj hji with h | h | ⟨h, hr⟩
  · exact .inl (.inl h)
  · exact absurd hi (waits_unlisted hc (set_un h1) _ _ h).2
  · rcases hr k hk (Ne.symm hn) hki with h' | h' | h'
    · exact .inl (.inr h')
    · exact absurd hi (waits_unlisted hc (set_un h2) _ _ h').2
    · exact .inr h'
theorem wpAny_of_M {Q : Act → World → Prop} {Q' : Exit → Act → World → Prop} (hQ : ∀ a w, Q a w → Q' .normal a w) : ∀ (fuel : Nat) (listed : Array Bool) (a : Act) (w : World),
    wpAnyM P md ops C act Q fuel listed a w → wpAny P md ops Q' fuel listed a w
  | 0, _, _, _, h => ⟨h.1, hQ _ _ h.2⟩
  | fuel + 1, listed, a, w, h => by
    refine ⟨fun h0 => hQ _ _ (h.1 h0), fun i hi => ?_⟩
    have h2 := h.2 i hi
    unfold mOp at h2
    unfold wpOp
    split
    · rename_i ho
      simp only [ho] at h2
      exact wpAny_of_M hQ fuel _ _ _ h2
    · rename_i o ho
      simp only [ho] at h2
      split
      · rename_i hwant
        simp only [hwant, if_true] at h2
        split at h2
        · exact .inl (h2.wp fun v w' ⟨hC, hk⟩ => wpAny_of_M hQ fuel _ _ _ hk)
        · obtain ⟨v, h3, h4⟩ := h2
          refine .inl ?_
          unfold Oper.wp
          rw [h3 w (.inr rfl)]
          exact wpAny_of_M hQ fuel _ _ _ h4
      · rename_i hwant
        simp only [hwant] at h2
        exact wpAny_of_M hQ fuel _ _ _ h2
def actB (md : Region.Mode) (ops : Array Oper) (act : Nat → Bool) : Bool :=
  (List.range ops.size).all fun j => !act j || (List.range j).all fun i => !act i || waitsB md ops ops.size j i
theorem mOp_first {Q : Act → World → Prop} {i : Nat} {oi : Oper} (hi : ops[i]? = some oi) (hsel : ∀ (j : Nat) (o : Oper) cs b, ops[j]? = some o → o.op ≠ .select cs b) (hact : act i = true → ∀ j, j ≠ i → act j = true → j < ops.size → waitsB md ops ops.size j i = true ∨ waitsB md ops ops.size i j = true) :
    ∀ (fuel : Nat) (listed : Array Bool) (a : Act) (w : World), C w ∨ Lin md ops act listed → Closed md ops listed →
      (∀ j oj, ops[j]? = some oj → j ≠ i → listed.getD j true = false → (∀ e ∈ oj.after, Region.binds md e = true → e.on ≠ i) → oi.apart ops oj = true) →
      i ∈ Region.ready md ops listed →
      mOp P md ops C act i (wpAnyM P md ops C act Q fuel (listed.setIfInBounds i true)) a w → wpAnyM P md ops C act Q (fuel + 1) listed a w := by
  intro fuel
  induction fuel with
  | zero =>
    intro listed a w hCw hcl _ hr H
    refine ⟨fun h => (by rw [h] at hr; cases hr), fun j hj => ?_⟩
    by_cases hji : j = i
    · subst hji; exact H
    · exfalso
      have hex : ∃ a' w', wpAnyM P md ops C act Q 0 (listed.setIfInBounds i true) a' w' := by
        unfold mOp at H
        simp only [hi] at H
        split at H
        · split at H
          · obtain ⟨v, w', _, h⟩ := H.some; exact ⟨_, _, h⟩
          · obtain ⟨v, _, h⟩ := H; exact ⟨_, _, h⟩
        · exact ⟨_, _, H⟩
      obtain ⟨a', w', h⟩ := hex
      have := ready_mono hj hji
      rw [h.1] at this
      cases this
  | succ fuel ih =>
    intro listed a w hCw hcl hfree hr H
    refine ⟨fun h => (by rw [h] at hr; cases hr), fun j hj => ?_⟩
    by_cases hji : j = i
    · subst hji; exact H
    · have hor : C w ∨ freeB ops act j = true ∨ freeB ops act i = true := hCw.imp id (lin_two hcl hr hj hji)
      have hnfj : finB md ops act j = true → freeB ops act i = true := fin_two hcl hj hr (Ne.symm hji)
      obtain ⟨hjun, oj, hoj, hall⟩ := mem_ready.1 hj
      have hiun : listed.getD i false = false := by
        have h0 := (mem_ready.1 hr).1
        rcases Nat.lt_or_ge i listed.size with h' | h'
        · simp [h'] at h0 ⊢; exact h0
        · simp [Array.getElem?_eq_none h'] at h0
      have hnot : ∀ e ∈ oj.after, Region.binds md e = true → e.on ≠ i := fun e he hb heq => by
        have h1 := hall e he hb
        rw [heq, hiun] at h1; cases h1
      have hap := hfree j oj hoj hji hjun hnot
      obtain ⟨h1, h2, h3⟩ := Oper.apart_spec hap
      have hsi := fun cs b => hsel i oi cs b hi
      have hsj := fun cs b => hsel j oj cs b hoj
      have hready' := ready_mono hr (Ne.symm hji)
      have hcl' := hcl.set hj
      have hfree' : ∀ k ok, ops[k]? = some ok → k ≠ i → (listed.setIfInBounds j true).getD k true = false →
          (∀ e ∈ ok.after, Region.binds md e = true → e.on ≠ i) → oi.apart ops ok = true := fun k ok hk hki hun hno => by
        refine hfree k ok hk hki ?_ hno
        by_cases hjk : j = k
        · subst hjk; exact hjun
        · rw [getD_set_ne true hjk] at hun; exact hun
      have hjr := ready_mono hj hji
      have hcomm : (listed.setIfInBounds j true).setIfInBounds i true = (listed.setIfInBounds i true).setIfInBounds j true := Array.setIfInBounds_comm _ _ hji
      have behind : ∀ (u : Value) (w' : World), C w' ∨ Lin md ops act (listed.setIfInBounds j true) → (mOp P md ops C act i (fun a' w'' => wpAnyM P md ops C act Q fuel ((listed.setIfInBounds i true).setIfInBounds j true) a' w'') (a.put oj.dst u) w') →
          wpAnyM P md ops C act Q (fuel + 1) (listed.setIfInBounds j true) (a.put oj.dst u) w' := fun u w' hC' hm => by
        refine ih _ _ _ hC' hcl' hfree' hready' ?_
        rw [hcomm]
        exact hm
      have wi : ∀ u, Region.wanted oi (yielded ops (a.put oj.dst u).tmps) = Region.wanted oi (yielded ops a.tmps) := fun u => wanted_put oi a oj.dst u h3
      have ei : ∀ u, execOp (a.put oj.dst u).eval oi = execOp a.eval oi := fun u => execOp_put oi hsi a oj.dst u h3
      have wj : ∀ v, Region.wanted oj (yielded ops (a.put oi.dst v).tmps) = Region.wanted oj (yielded ops a.tmps) := fun v => wanted_put oj a oi.dst v h1
      have ej : ∀ v, execOp (a.put oi.dst v).eval oj = execOp a.eval oj := fun v => execOp_put oj hsj a oi.dst v h1
      have pc : ∀ v u, (a.put oi.dst v).put oj.dst u = (a.put oj.dst u).put oi.dst v := fun v u => Act.put_comm a v u h2
      unfold mOp at H
      simp only [hi] at H
      by_cases hwi : Region.wanted oi (yielded ops a.tmps) = true
      · simp only [hwi, if_true] at H
        by_cases hai : act i = true
        · -- i turns the world: j only looks
          simp only [hai, if_true] at H
          have hnf : finB md ops act i = true → freeB ops act j = true := fin_two hcl hr hj hji
          have hor : C w ∨ freeB ops act j = true := hor.imp id (fun h => h.resolve_right (fun h => freeB_act h hai))
          have haj : act j = false := by
            cases haj : act j with
            | false => rfl
            | true =>
              have hjlt : j < ops.size := (Array.getElem?_eq_some_iff.1 hoj).1
              exfalso
              rcases hact hai j hji haj hjlt with h | h
              · exact (waits_unlisted hcl hiun _ _ h).2 hj
              · have hjf : listed.getD j false = false := by
                  rcases Nat.lt_or_ge j listed.size with h' | h'
                  · simp [h'] at hjun ⊢; exact hjun
                  · simp [Array.getElem?_eq_none h'] at hjun
                exact (waits_unlisted hcl hjf _ _ h).2 hr
          unfold mOp
          simp only [hoj]
          have H' : does P oi a w (fun v w1 => (C w1 ∨ finB md ops act i = true) ∧ mOp P md ops C act j (wpAnyM P md ops C act Q fuel ((listed.setIfInBounds i true).setIfInBounds j true)) (a.put oi.dst v) w1) :=
            H.mono fun v w1 ⟨hc, hk⟩ => ⟨hc, hk.2 j hjr⟩
          by_cases hwj : Region.wanted oj (yielded ops a.tmps) = true
          · simp only [hwj, if_true, haj, Bool.false_eq_true, if_false]
            obtain ⟨v0, w0, hc0, hk0⟩ := H'.some
            unfold mOp at hk0
            simp only [hoj, wj, hwj, if_true, haj, Bool.false_eq_true, if_false, ej] at hk0
            obtain ⟨u, hu, _⟩ := hk0
            have hall : ∀ w2, C w2 ∨ w2 = w → (execOp a.eval oj).run P w2 = .ok (.value u) w2 := fun w2 h => by
              rcases hor with hCw | hf
              · rcases hc0.imp id hnf with hc0 | hf
                · exact hu w2 (.inl (h.elim id (fun e => e ▸ hCw)))
                · exact freeB_run hf hoj (hu w0 (.inr rfl)) w2
              · exact freeB_run hf hoj (hu w0 (.inr rfl)) w2
            refine ⟨u, hall, behind u w (hCw.imp id Lin.set) ?_⟩
            unfold mOp
            simp only [hi, wi, hwi, if_true, hai]
            have : does P oi a w (fun v w1 => (C w1 ∨ finB md ops act i = true) ∧ wpAnyM P md ops C act Q fuel ((listed.setIfInBounds i true).setIfInBounds j true) ((a.put oj.dst u).put oi.dst v) w1) := by
              refine H'.mono fun v w1 ⟨hc, hk⟩ => ⟨hc, ?_⟩
              unfold mOp at hk
              simp only [hoj, wj, hwj, if_true, haj, Bool.false_eq_true, if_false, ej] at hk
              obtain ⟨u', hu', hk'⟩ := hk
              have e1 : (execOp a.eval oj).run P w1 = .ok (.value u) w1 := by
                rcases hc.imp id hnf with hc | hf
                · exact hall w1 (.inl hc)
                · exact freeB_run hf hoj (hu w0 (.inr rfl)) w1
              have e := e1.symm.trans (hu' w1 (.inr rfl))
              simp only [Result.ok.injEq, Next.value.injEq, and_true] at e
              subst e
              rw [← pc]
              exact hk'
            unfold does at this ⊢
            rw [ei]
            exact this
          · simp only [hwj, if_false]
            refine behind undef w (hCw.imp id Lin.set) ?_
            unfold mOp
            simp only [hi, wi, hwi, if_true, hai]
            have : does P oi a w (fun v w1 => (C w1 ∨ finB md ops act i = true) ∧ wpAnyM P md ops C act Q fuel ((listed.setIfInBounds i true).setIfInBounds j true) ((a.put oj.dst undef).put oi.dst v) w1) := by
              refine H'.mono fun v w1 ⟨hc, hk⟩ => ⟨hc, ?_⟩
              unfold mOp at hk
              simp only [hoj, wj, hwj, if_false] at hk
              rw [← pc]
              exact hk
            unfold does at this ⊢
            rw [ei]
            exact this
        · -- i only looks
          simp only [hai, if_false] at H
          obtain ⟨v, hv, hk⟩ := H
          have hk2 := hk.2 j hjr
          have mi : ∀ (u : Value) (w' : World), C w' ∨ freeB ops act i = true ∨ w' = w → wpAnyM P md ops C act Q fuel ((listed.setIfInBounds i true).setIfInBounds j true) ((a.put oi.dst v).put oj.dst u) w' →
              mOp P md ops C act i (fun a' w'' => wpAnyM P md ops C act Q fuel ((listed.setIfInBounds i true).setIfInBounds j true) a' w'') (a.put oj.dst u) w' := fun u w' hC' h => by
            unfold mOp
            simp only [hi, wi, hwi, if_true, hai, if_false, ei]
            refine ⟨v, fun w2 h => ?_, ?_⟩
            · rcases h with h | rfl
              · exact hv w2 (.inl h)
              · rcases hC' with h | h | rfl
                · exact hv w2 (.inl h)
                · exact freeB_run h hi (hv w (.inr rfl)) w2
                · exact hv w2 (.inr rfl)
            rw [← pc]
            exact h
          unfold mOp at hk2 ⊢
          simp only [hoj, wj] at hk2 ⊢
          by_cases hwj : Region.wanted oj (yielded ops a.tmps) = true
          · simp only [hwj, if_true] at hk2 ⊢
            by_cases haj : act j = true
            · simp only [haj, if_true] at hk2 ⊢
              have : does P oj a w (fun u w1 => (C w1 ∨ finB md ops act j = true) ∧ wpAnyM P md ops C act Q fuel ((listed.setIfInBounds i true).setIfInBounds j true) ((a.put oi.dst v).put oj.dst u) w1) := by
                unfold does at hk2 ⊢
                rw [ej] at hk2
                exact hk2
              exact this.mono fun u w1 ⟨hc, h⟩ => ⟨hc, behind u w1 (hc.imp id (fin_lin hcl hj)) (mi u w1 (hc.imp id (fun h => .inl (hnfj h))) h)⟩
            · simp only [haj, if_false, ej] at hk2 ⊢
              obtain ⟨u, hu, h⟩ := hk2
              exact ⟨u, hu, behind u w (hCw.imp id Lin.set) (mi u w (.inr (.inr rfl)) h)⟩
          · simp only [hwj, if_false] at hk2 ⊢
            exact behind undef w (hCw.imp id Lin.set) (mi undef w (.inr (.inr rfl)) hk2)
      · -- i is passed over
        simp only [hwi, if_false] at H
        have hk2 := H.2 j hjr
        have mi : ∀ (u : Value) (w' : World), wpAnyM P md ops C act Q fuel ((listed.setIfInBounds i true).setIfInBounds j true) ((a.put oi.dst undef).put oj.dst u) w' →
            mOp P md ops C act i (fun a' w'' => wpAnyM P md ops C act Q fuel ((listed.setIfInBounds i true).setIfInBounds j true) a' w'') (a.put oj.dst u) w' := fun u w' h => by
          unfold mOp
          simp only [hi, wi, hwi, if_false]
          rw [← pc]
          exact h
        unfold mOp at hk2 ⊢
        simp only [hoj, wj] at hk2 ⊢
        by_cases hwj : Region.wanted oj (yielded ops a.tmps) = true
        · simp only [hwj, if_true] at hk2 ⊢
          by_cases haj : act j = true
          · simp only [haj, if_true] at hk2 ⊢
            have : does P oj a w (fun u w1 => (C w1 ∨ finB md ops act j = true) ∧ wpAnyM P md ops C act Q fuel ((listed.setIfInBounds i true).setIfInBounds j true) ((a.put oi.dst undef).put oj.dst u) w1) := by
              unfold does at hk2 ⊢
              rw [ej] at hk2
              exact hk2
            exact this.mono fun u w1 ⟨hc, h⟩ => ⟨hc, behind u w1 (hc.imp id (fin_lin hcl hj)) (mi u w1 h)⟩
          · simp only [haj, if_false, ej] at hk2 ⊢
            obtain ⟨u, hu, h⟩ := hk2
            exact ⟨u, hu, behind u w (hCw.imp id Lin.set) (mi u w h)⟩
        · simp only [hwj, if_false] at hk2 ⊢
          exact behind undef w (hCw.imp id Lin.set) (mi undef w hk2)
def wpMix (P : Program) (md : Region.Mode) (ops : Array Oper) (C : World → Prop) (act : Nat → Bool) (Q : Act → World → Prop) : List Oper → Nat → Act → World → Prop
  | [], _, a, w => Q a w
  | o :: rest, k, a, w =>
    if Region.wanted o (yielded ops a.tmps) then
      (if act k then does P o a w (fun v w' => (C w' ∨ finB md ops act k = true) ∧ wpMix P md ops C act Q rest (k + 1) (a.put o.dst v) w')
       else ∃ v, (∀ w2, C w2 ∨ w2 = w → (execOp a.eval o).run P w2 = .ok (.value v) w2) ∧ wpMix P md ops C act Q rest (k + 1) (a.put o.dst v) w)
    else wpMix P md ops C act Q rest (k + 1) (a.put o.dst undef) w
theorem wpAnyM_lex {Q : Act → World → Prop} (hs : Region.noSelect ops = true) (hA : actB md ops act = true) : ∀ (l : List Oper) (k : Nat) (listed : Array Bool) (a : Act) (w : World), (∀ j, l[j]? = ops[k + j]?) → C w ∨ Lin md ops act listed → Closed md ops listed →
    Region.lexFrom md ops l.length k listed = true → wpMix P md ops C act Q l k a w → wpAnyM P md ops C act Q l.length listed a w
  | [], _, _, _, _, _, _, _, hB, h => ⟨by simpa [Region.lexFrom] using hB, h⟩
  | o :: l, k, listed, a, w, hl, hCw, hc, hB, h => by
    have h0 : ops[k]? = some o := by simpa using (hl 0).symm
    simp only [List.length_cons, Region.lexFrom, Bool.and_eq_true] at hB
    obtain ⟨⟨hr, hf⟩, hB'⟩ := hB
    have hr' : k ∈ Region.ready md ops listed := by simpa using hr
    refine mOp_first h0 (Region.noSelect_spec hs) ?_ l.length listed a w hCw hc (Region.free_spec h0 hf) hr' ?_
    · intro hk j hjk hj hjlt
      have hklt : k < ops.size := (Array.getElem?_eq_some_iff.1 h0).1
      unfold actB at hA
      rw [List.all_eq_true] at hA
      rcases Nat.lt_or_ge j k with hlt | hge
      · have := hA k (List.mem_range.2 hklt)
        simp only [hk, Bool.not_true, Bool.false_or, List.all_eq_true] at this
        have := this j (List.mem_range.2 hlt)
        simp only [hj, Bool.not_true, Bool.false_or] at this
        exact .inr this
      · have := hA j (List.mem_range.2 hjlt)
        simp only [hj, Bool.not_true, Bool.false_or, List.all_eq_true] at this
        have := this k (List.mem_range.2 (by omega))
        simp only [hk, Bool.not_true, Bool.false_or] at this
        exact .inl this
    · have go : ∀ a' w', C w' ∨ Lin md ops act (listed.setIfInBounds k true) → wpMix P md ops C act Q l (k + 1) a' w' → wpAnyM P md ops C act Q l.length (listed.setIfInBounds k true) a' w' := fun a' w' hw' h' =>
        wpAnyM_lex hs hA l (k + 1) _ a' w' (fun j => by have := hl (j + 1); simpa [Nat.add_assoc, Nat.add_comm 1 j] using this) hw' (hc.set hr') hB' h'
      unfold mOp
      simp only [h0]
      simp only [wpMix] at h
      split
      · rename_i hw
        simp only [hw, if_true] at h
        split
        · rename_i ha
          simp only [ha, if_true] at h
          exact h.mono fun v w' ⟨h1, h2⟩ => ⟨h1, go _ _ (h1.imp id (fin_lin hc hr')) h2⟩
        · rename_i ha
          simp only [ha] at h
          obtain ⟨v, h1, h2⟩ := h
          exact ⟨v, h1, go _ _ (hCw.imp id Lin.set) h2⟩
      · rename_i hw
        simp only [hw] at h
        exact go _ _ (hCw.imp id Lin.set) h
theorem wp_region_mix {id : Nat} {Q : Exit → Act → World → Prop} {a : Act} {w : World} (act : Nat → Bool) (hm : P.follows .mixedOrders = true) (hB : Region.lexB .any ops = true) (hA : actB .any ops act = true)
    (hC : C { w with drawn := w.drawn + 1 }) (h : wpMix P .any ops C act (fun a' w' => Q .normal a' w') ops.toList 0 a { w with drawn := w.drawn + 1 }) : (Code.region id ops true).wp P Q a w := by
  simp only [Region.lexB, Bool.and_eq_true] at hB
  refine wp_region_any hm (wpAny_of_M (C := C) (act := act) (Q := fun a' w' => Q .normal a' w') (fun _ _ h => h) _ _ _ _ ?_)
  have := wpAnyM_lex (C := C) (md := .any) hB.1 hA ops.toList 0 (Array.replicate ops.size false) a _ (by simp) (.inl hC) ⟨by simp, fun j oj hj hl => by rw [getD_replicate_false] at hl; cases hl⟩ (by simpa using hB.2) h
  simpa using this
end
def MB (F : Fr) (S : Nat → Prop) (w0 : World) (al : List Nat) (e : Env) (all : List Oper) (i : Nat) (ops : List Oper) (k : List It) (w : World) : Prop :=
  ∀ w', Same w w' → ∀ a, Ag F.z e a → wpMix F.P .any all.toArray (Ext S w0) (fun j => al.contains j) (fun a' w2 => post F k .normal a' w2) ops i a w'
def M (F : Fr) (S : Nat → Prop) (w0 : World) (al : List Nat) (e : Env) (all : List Oper) (i : Nat) (ops : List Oper) (k : List It) (w : World) : Prop :=
  Ext S w0 w → MB F S w0 al e all i ops k w
def DoV (P : Program) (e : Env) (op : Op) (w : World) (Post : Value → World → Prop) : Prop :=
  ∀ w', Same w w' → ∀ ρ : Operand → Value, (∀ x u, look e x = some u → ρ x = u) → ∀ o : Oper, o.op = op → ∃ v w2 w3, (execOp ρ o).run P w' = .ok (.value v) w3 ∧ Same w2 w3 ∧ Post v w2
def DoS (P : Program) (e : Env) (op : Op) (w : World) (Post : World → Prop) : Prop :=
  ∀ w', Same w w' → ∀ ρ : Operand → Value, (∀ x u, look e x = some u → ρ x = u) → ∀ o : Oper, o.op = op → ∃ w2 w3, (execOp ρ o).run P w' = .ok .skip w3 ∧ Same w2 w3 ∧ Post w2
theorem DoV.ofEv {P : Program} {e : Env} {op : Op} {w : World} {v : Value} (h : Ev P e op w v) : DoV P e op w (fun u w2 => u = v ∧ w2 = w) :=
  fun w' hw ρ hρ o ho => ⟨v, w, w', h w' (.same hw) ρ hρ o ho, hw, rfl, rfl⟩
section
variable {F : Fr} {S : Nat → Prop} {w0 : World} {al : List Nat} {e : Env} {k : List It} {w : World} {all rest : List Oper} {i d : Nat} {op : Op} {ty : TypeId} {pos : String} {af : Array Edge} {g : Option (Nat × Bool)}
theorem O.v {Post : Value → World → Prop} (hd : Nat.blt d F.n = true) (hg : gd e all g = some true) (h : DoV F.P e op w Post) (next : ∀ v w2, Post v w2 → O F ((d, v) :: e) all rest k w2) : O F e all (⟨some d, op, ty, pos, af, g⟩ :: rest) k w :=
  O.step Post hd hg (fun w' hw ρ hρ => h w' hw ρ hρ _ rfl) next
theorem O.s {Post : World → Prop} (hg : gd e all g = some true) (h : DoS F.P e op w Post) (next : ∀ w2, Post w2 → O F e all rest k w2) : O F e all (⟨none, op, ty, pos, af, g⟩ :: rest) k w := by
  intro w' hw a ha
  refine wpList_step fun K hK => ?_
  rw [if_pos (gd_wanted ha hg)]
  obtain ⟨w2, w3, hr, hs, hp⟩ := h w' hw a.eval (fun x u hx => ha.ev hx) ⟨none, op, ty, pos, af, g⟩ rfl
  unfold Oper.wp
  rw [hr]
  exact hK _ _ (next w2 hp w3 hs _ (ha.put0 undef))
theorem G.mix {id : Nat} {l : List Oper} (S : Nat → Prop) (al : List Nat) (hm : F.P.follows .mixedOrders = true) (hB : Region.lexB .any l.toArray = true) (hA : actB .any l.toArray (fun j => al.contains j) = true)
    (h : M F S w al e l 0 l k w) : G F e (.region id l.toArray true) k w :=
  fun w' hw a ha => wp_region_mix (C := Ext S w) (fun j => al.contains j) hm hB hA (.same (hw.trans (same_draw w'))) (by simpa using h (.refl _) _ (hw.trans (same_draw w')) a ha)
theorem MB.nil (h : A F e k w) : MB F S w0 al e all i [] k w := fun w' hw a ha => h w' hw a ha
theorem MB.p {v : Value} (hi : al.contains i = false) (hd : Nat.blt d F.n = true) (hg : gd e all g = some true) (h : ∀ w', Ext S w0 w' ∨ w' = w → Ev F.P e op w' v) (next : MB F S w0 al ((d, v) :: e) all (i + 1) rest k w) :
    MB F S w0 al e all i (⟨some d, op, ty, pos, af, g⟩ :: rest) k w := by
  intro w' hw a ha
  unfold wpMix
  rw [if_pos (gd_wanted ha hg), if_neg (by rw [hi]; simp)]
  refine ⟨v, fun w2 hw2 => ?_, next w' hw _ (ha.put hd v)⟩
  rcases hw2 with hw2 | rfl
  · exact h w2 (.inl hw2) w2 (.refl w2) a.eval (fun x u hx => ha.ev hx) _ rfl
  · exact h w (.inr rfl) w2 (.same hw) a.eval (fun x u hx => ha.ev hx) _ rfl
theorem MB.skip (hd : Nat.blt d F.n = true) (hg : gd e all g = some false) (next : MB F S w0 al ((d, undef) :: e) all (i + 1) rest k w) : MB F S w0 al e all i (⟨some d, op, ty, pos, af, g⟩ :: rest) k w := by
  intro w' hw a ha
  unfold wpMix
  rw [if_neg (by rw [gd_wanted ha hg]; simp)]
  exact next w' hw _ (ha.put hd undef)
theorem MB.v0 {Post : Value → World → Prop} (hi : al.contains i = true) (hd : Nat.blt d F.n = true) (hg : gd e all g = some true) (h : DoV F.P e op w Post) (hC : ∀ v w2, Post v w2 → Ext S w0 w2 ∨ finB .any all.toArray (fun j => al.contains j) i = true)
    (next : ∀ v w2, Post v w2 → MB F S w0 al ((d, v) :: e) all (i + 1) rest k w2) : MB F S w0 al e all i (⟨some d, op, ty, pos, af, g⟩ :: rest) k w := by
  intro w' hw a ha
  unfold wpMix
  rw [if_pos (gd_wanted ha hg), if_pos hi]
  obtain ⟨v, w2, w3, hr, hs, hp⟩ := h w' hw a.eval (fun x u hx => ha.ev hx) ⟨some d, op, ty, pos, af, g⟩ rfl
  unfold does
  rw [hr]
  exact ⟨(hC v w2 hp).imp (fun h => h.trans (.same hs)) id, next v w2 hp w3 hs _ (ha.put hd v)⟩
theorem MB.s0 {Post : World → Prop} (hi : al.contains i = true) (hg : gd e all g = some true) (h : DoS F.P e op w Post) (hC : ∀ w2, Post w2 → Ext S w0 w2 ∨ finB .any all.toArray (fun j => al.contains j) i = true)
    (next : ∀ w2, Post w2 → MB F S w0 al e all (i + 1) rest k w2) : MB F S w0 al e all i (⟨none, op, ty, pos, af, g⟩ :: rest) k w := by
  intro w' hw a ha
  unfold wpMix
  rw [if_pos (gd_wanted ha hg), if_pos hi]
  obtain ⟨w2, w3, hr, hs, hp⟩ := h w' hw a.eval (fun x u hx => ha.ev hx) ⟨none, op, ty, pos, af, g⟩ rfl
  unfold does
  rw [hr]
  exact ⟨(hC w2 hp).imp (fun h => h.trans (.same hs)) id, next w2 hp w3 hs _ (ha.put0 undef)⟩
theorem MB.vL {Post : Value → World → Prop} (hi : al.contains i = true) (hd : Nat.blt d F.n = true) (hg : gd e all g = some true) (h : DoV F.P e op w Post) (hf : finB .any all.toArray (fun j => al.contains j) i = true)
    (next : ∀ v w2, Post v w2 → MB F S w0 al ((d, v) :: e) all (i + 1) rest k w2) : MB F S w0 al e all i (⟨some d, op, ty, pos, af, g⟩ :: rest) k w := .v0 hi hd hg h (fun _ _ _ => .inr hf) next
theorem MB.sL {Post : World → Prop} (hi : al.contains i = true) (hg : gd e all g = some true) (h : DoS F.P e op w Post) (hf : finB .any all.toArray (fun j => al.contains j) i = true)
    (next : ∀ w2, Post w2 → MB F S w0 al e all (i + 1) rest k w2) : MB F S w0 al e all i (⟨none, op, ty, pos, af, g⟩ :: rest) k w := .s0 hi hg h (fun _ _ => .inr hf) next
theorem M.nil (h : A F e k w) : M F S w0 al e all i [] k w := fun _ => .nil h
theorem M.p {v : Value} (hi : al.contains i = false) (hd : Nat.blt d F.n = true) (hg : gd e all g = some true) (h : ∀ w', Ext S w0 w' → Ev F.P e op w' v) (next : M F S w0 al ((d, v) :: e) all (i + 1) rest k w) :
    M F S w0 al e all i (⟨some d, op, ty, pos, af, g⟩ :: rest) k w :=
  fun hX => .p hi hd hg (fun w' hw' => h w' (hw'.elim id (fun e => e ▸ hX))) (next hX)
theorem M.skip (hd : Nat.blt d F.n = true) (hg : gd e all g = some false) (next : M F S w0 al ((d, undef) :: e) all (i + 1) rest k w) : M F S w0 al e all i (⟨some d, op, ty, pos, af, g⟩ :: rest) k w := fun hX => .skip hd hg (next hX)
theorem M.v {Post : Value → World → Prop} (hi : al.contains i = true) (hd : Nat.blt d F.n = true) (hg : gd e all g = some true) (h : DoV F.P e op w Post) (hC : ∀ v w2, Post v w2 → Ext S w0 w2)
    (next : ∀ v w2, Post v w2 → M F S w0 al ((d, v) :: e) all (i + 1) rest k w2) : M F S w0 al e all i (⟨some d, op, ty, pos, af, g⟩ :: rest) k w :=
  fun hX => .v0 hi hd hg h (fun v w2 hp => .inl (hC v w2 hp)) (fun v w2 hp => next v w2 hp (hC v w2 hp))
theorem M.s {Post : World → Prop} (hi : al.contains i = true) (hg : gd e all g = some true) (h : DoS F.P e op w Post) (hC : ∀ w2, Post w2 → Ext S w0 w2)
    (next : ∀ w2, Post w2 → M F S w0 al e all (i + 1) rest k w2) : M F S w0 al e all i (⟨none, op, ty, pos, af, g⟩ :: rest) k w :=
  fun hX => .s0 hi hg h (fun w2 hp => .inl (hC w2 hp)) (fun w2 hp => next w2 hp (hC w2 hp))
theorem M.vL {Post : Value → World → Prop} (hi : al.contains i = true) (hd : Nat.blt d F.n = true) (hg : gd e all g = some true) (h : DoV F.P e op w Post) (hf : finB .any all.toArray (fun j => al.contains j) i = true)
    (next : ∀ v w2, Post v w2 → MB F S w0 al ((d, v) :: e) all (i + 1) rest k w2) : M F S w0 al e all i (⟨some d, op, ty, pos, af, g⟩ :: rest) k w := fun _ => .vL hi hd hg h hf next
theorem M.sL {Post : World → Prop} (hi : al.contains i = true) (hg : gd e all g = some true) (h : DoS F.P e op w Post) (hf : finB .any all.toArray (fun j => al.contains j) i = true)
    (next : ∀ w2, Post w2 → MB F S w0 al e all (i + 1) rest k w2) : M F S w0 al e all i (⟨none, op, ty, pos, af, g⟩ :: rest) k w := fun _ => .sL hi hg h hf next
theorem M.call {c : Operand} {f : FuncId} {xs : List Operand} {ats : Array TypeId} {vs first captured : List Value} {Post : Value → World → Prop} (hi : al.contains i = true) (hd : Nat.blt d F.n = true) (hg : gd e all g = some true)
    (hf : look e c = some (.func (.func f) first.toArray captured.toArray)) (hx : xs.mapM (look e) = some vs) (hc : Fn F.P f (first ++ vs ++ captured) w Post) (hC : ∀ r w2, Post r w2 → Ext S w0 w2) (next : ∀ r w2, Post r w2 → M F S w0 al ((d, r) :: e) all (i + 1) rest k w2) :
    M F S w0 al e all i (⟨some d, .call { callee := .value c, args := xs.toArray, argTypes := ats }, ty, pos, af, g⟩ :: rest) k w := by
  intro hX w' hw a ha
  unfold wpMix
  rw [if_pos (gd_wanted ha hg), if_pos hi]
  unfold does
  rw [run_call_value rfl (ha.ev hf), look_args (fun x u hx => ha.ev hx) xs vs hx, hc.1 w']
  refine (hc.2 w' hw).mono fun en w3 ⟨r, w2, hs, he, hp⟩ => ?_
  subst he
  exact ⟨.inl ((hC r w2 hp).trans (.same hs)), next r w2 hp (hC r w2 hp) w3 hs _ (ha.put hd r)⟩
theorem M.cl {c : Operand} {f : FuncId} {xs : List Operand} {ats : Array TypeId} {vs : List Value} {Post : Value → World → Prop} (hi : al.contains i = true) (hd : Nat.blt d F.n = true) (hg : gd e all g = some true)
    (hf : look e c = some (.func (.func f) #[] #[])) (hx : xs.mapM (look e) = some vs) (hc : Fn F.P f vs w Post) (hC : ∀ r w2, Post r w2 → Ext S w0 w2) (next : ∀ r w2, Post r w2 → M F S w0 al ((d, r) :: e) all (i + 1) rest k w2) :
    M F S w0 al e all i (⟨some d, .call { callee := .value c, args := xs.toArray, argTypes := ats }, ty, pos, af, g⟩ :: rest) k w := M.call (first := []) (captured := []) hi hd hg hf hx (by rw [List.nil_append, List.append_nil]; exact hc) hC next
theorem M.case (t : Nat) {ops : List Oper} {b : Bool} (h : e.get t = some (.bool b)) (h1 : b = true → M F S w0 al ((t, .bool true) :: e) all i ops k w) (h2 : b = false → M F S w0 al ((t, .bool false) :: e) all i ops k w) : M F S w0 al e all i ops k w := by
  have hkeep : ∀ {n : Sz} {a : Act}, Ag n e a → Ag n ((t, .bool b) :: e) a := fun ha => ⟨ha.1, ha.2.1, fun t' v' h' => by
    simp only [Env.get, cond_eq_ite, Nat.beq_eq] at h'
    by_cases ht : t = t'
    · subst ht; simp at h'; subst h'; exact ha.2.2 _ _ h
    · rw [if_neg ht] at h'; exact ha.2.2 _ _ h'⟩
  intro hX w' hw a ha
  cases b
  · exact h2 rfl hX w' hw a (hkeep ha)
  · exact h1 rfl hX w' hw a (hkeep ha)
theorem M.caseD (t : Nat) {ops : List Oper} {p : Prop} [Decidable p] (h : e.get t = some (.bool (decide p))) (h1 : p → M F S w0 al ((t, .bool true) :: e) all i ops k w) (h2 : ¬ p → M F S w0 al ((t, .bool false) :: e) all i ops k w) : M F S w0 al e all i ops k w :=
  M.case t h (fun hb => h1 (of_decide_eq_true hb)) (fun hb => h2 (of_decide_eq_false hb))
end
end Go.Proofs.YthliepcjfnjnoaaGreatDoor
namespace Go.Proofs.YthliepcjfnjnoaaGreatDoor
open Go
abbrev u8 (x : UInt8) : Value := .int .u8 x.toNat
abbrev u32 (x : UInt32) : Value := .int .u32 x.toNat
abbrev u64 (x : UInt64) : Value := .int .u64 x.toNat
abbrev i64 (x : Int) : Value := .int .i64 x
abbrev Bs := List UInt8
def bs (l : Bs) : ByteArray := ⟨l.toArray⟩
abbrev str (l : Bs) : Value := .string (bs l)
theorem bs_size (l : Bs) : (bs l).size = l.length := by simp [bs, ByteArray.size]
theorem bs_toList (l : Bs) : (bs l).toList = l := ByteArray.toList_mk l
theorem bs_append (a b : Bs) : bs a ++ bs b = bs (a ++ b) := by
  apply ByteArray.ext
  simp [bs, ByteArray.data_append]
theorem bs_extract (l : Bs) (a b : Nat) : (bs l).extract a b = bs ((l.drop a).take (b - a)) := ByteArray.extract_mk l a b
section
variable {P : Program} {e : Env} {w : World} {x y z : Operand} {T T' : TypeId} {v u : Value}
theorem Ev.mv (h : look e x = some v) : Ev P e (.move x) w v := fun w' _ ρ hρ o ho => by simp [execOp, ho, hρ _ _ h]
theorem Ev.as (h : look e x = some v) : Ev P e (.assign x) w v := fun w' _ ρ hρ o ho => by simp [execOp, ho, hρ _ _ h]
theorem Ev.pickT (hc : look e z = some (.bool true)) (h : look e x = some v) : Ev P e (.pick z x y) w v := fun w' _ ρ hρ o ho => by simp [execOp, ho, hρ _ _ hc, hρ _ _ h, asBool]
theorem Ev.pickF (hc : look e z = some (.bool false)) (h : look e y = some v) : Ev P e (.pick z x y) w v := fun w' _ ρ hρ o ho => by simp [execOp, ho, hρ _ _ hc, hρ _ _ h, asBool]
theorem Ev.cast {op : Op} (h : Ev P e op w v) (hv : v = u) : Ev P e op w u := hv ▸ h
theorem Ev.yes {op : Op} {p : Prop} [Decidable p] (h : Ev P e op w (.bool (decide p))) (hp : p) : Ev P e op w (.bool true) := h.cast (by rw [decide_eq_true hp])
theorem Ev.no {op : Op} {p : Prop} [Decidable p] (h : Ev P e op w (.bool (decide p))) (hp : ¬ p) : Ev P e op w (.bool false) := h.cast (by rw [decide_eq_false hp])
theorem Ev.extract {vs : List Value} {i : Nat} (h : look e x = some (.tuple vs.toArray)) (hi : vs[i]? = some v) : Ev P e (.extract x i) w v := fun w' _ ρ hρ o ho => by simp [execOp, ho, hρ _ _ h, Instr.extract, hi]
section
variable {k : IntKind} {a b : Int}
theorem Ev.addK (hx : look e x = some (.int k a)) (hy : look e y = some (.int k b)) (hr : k.wrap (a + b) = a + b) : Ev P e (.binOp .add T x y T') w (.int k (a + b)) :=
  fun w' _ ρ hρ o ho => by simp [execOp, ho, hρ _ _ hx, hρ _ _ hy, eqGuard, binOp, Op.intArith, hr]
theorem Ev.subK (hx : look e x = some (.int k a)) (hy : look e y = some (.int k b)) (hr : k.wrap (a - b) = a - b) : Ev P e (.binOp .sub T x y T') w (.int k (a - b)) :=
  fun w' _ ρ hρ o ho => by simp [execOp, ho, hρ _ _ hx, hρ _ _ hy, eqGuard, binOp, Op.intArith, hr]
theorem Ev.mulK (hx : look e x = some (.int k a)) (hy : look e y = some (.int k b)) (hr : k.wrap (a * b) = a * b) : Ev P e (.binOp .mul T x y T') w (.int k (a * b)) :=
  fun w' _ ρ hρ o ho => by simp [execOp, ho, hρ _ _ hx, hρ _ _ hy, eqGuard, binOp, Op.intArith, hr]
theorem Ev.add (hx : look e x = some (i64 a)) (hy : look e y = some (i64 b)) (hr : -9223372036854775808 ≤ a + b ∧ a + b ≤ 9223372036854775807) : Ev P e (.binOp .add T x y T') w (i64 (a + b)) := .addK hx hy (IntWalk.i64_in _ hr)
theorem Ev.sub (hx : look e x = some (i64 a)) (hy : look e y = some (i64 b)) (hr : -9223372036854775808 ≤ a - b ∧ a - b ≤ 9223372036854775807) : Ev P e (.binOp .sub T x y T') w (i64 (a - b)) := .subK hx hy (IntWalk.i64_in _ hr)
theorem Ev.mul (hx : look e x = some (i64 a)) (hy : look e y = some (i64 b)) (hr : -9223372036854775808 ≤ a * b ∧ a * b ≤ 9223372036854775807) : Ev P e (.binOp .mul T x y T') w (i64 (a * b)) := .mulK hx hy (IntWalk.i64_in _ hr)
theorem Ev.quo (hx : look e x = some (i64 a)) (hy : look e y = some (i64 b)) (hr : 0 ≤ a ∧ a ≤ 9223372036854775807 ∧ 1 ≤ b) : Ev P e (.binOp .quo T x y T') w (i64 (a / b)) :=
  fun w' _ ρ hρ o ho => by simp [execOp, ho, hρ _ _ hx, hρ _ _ hy, eqGuard, binOp, Op.intDiv, (by omega : ¬ b = 0), IntWalk.i64_quo a b hr]; intro h; omega
theorem Ev.rem (hx : look e x = some (.int k a)) (hy : look e y = some (.int k b)) (hr : 0 ≤ a ∧ 1 ≤ b) : Ev P e (.binOp .rem T x y T') w (.int k (a % b)) :=
  fun w' _ ρ hρ o ho => by simp [execOp, ho, hρ _ _ hx, hρ _ _ hy, eqGuard, binOp, Op.intDiv, (by omega : ¬ b = 0), Int.tmod_eq_emod_of_nonneg hr.1]; intro h; omega
theorem Ev.addU (hx : look e x = some (.int .u64 a)) (hy : look e y = some (.int .u64 b)) (hr : 0 ≤ a + b ∧ a + b ≤ 18446744073709551615) : Ev P e (.binOp .add T x y T') w (.int .u64 (a + b)) := .addK hx hy (IntWalk.u64_in _ hr)
theorem Ev.subU (hx : look e x = some (.int .u64 a)) (hy : look e y = some (.int .u64 b)) (hr : 0 ≤ a - b ∧ a - b ≤ 18446744073709551615) : Ev P e (.binOp .sub T x y T') w (.int .u64 (a - b)) := .subK hx hy (IntWalk.u64_in _ hr)
theorem Ev.mulU (hx : look e x = some (.int .u64 a)) (hy : look e y = some (.int .u64 b)) (hr : 0 ≤ a * b ∧ a * b ≤ 18446744073709551615) : Ev P e (.binOp .mul T x y T') w (.int .u64 (a * b)) := .mulK hx hy (IntWalk.u64_in _ hr)
theorem Ev.eq (hx : look e x = some (.int k a)) (hy : look e y = some (.int k b)) : Ev P e (.binOp .eql T x y T') w (.bool (decide (a = b))) :=
  fun w' _ ρ hρ o ho => by simp [execOp, ho, hρ _ _ hx, hρ _ _ hy, eqGuard, binOp, Op.intCmp]; rfl
theorem Ev.ne (hx : look e x = some (.int k a)) (hy : look e y = some (.int k b)) : Ev P e (.binOp .neq T x y T') w (.bool (decide (¬ a = b))) :=
  fun w' _ ρ hρ o ho => by
    simp [execOp, ho, hρ _ _ hx, hρ _ _ hy, eqGuard, binOp, Op.intCmp]
    by_cases h : a = b <;> simp [h]
theorem Ev.lt (hx : look e x = some (.int k a)) (hy : look e y = some (.int k b)) : Ev P e (.binOp .lss T x y T') w (.bool (decide (a < b))) :=
  fun w' _ ρ hρ o ho => by simp [execOp, ho, hρ _ _ hx, hρ _ _ hy, eqGuard, binOp, Op.intCmp]
theorem Ev.le (hx : look e x = some (.int k a)) (hy : look e y = some (.int k b)) : Ev P e (.binOp .leq T x y T') w (.bool (decide (a ≤ b))) :=
  fun w' _ ρ hρ o ho => by simp [execOp, ho, hρ _ _ hx, hρ _ _ hy, eqGuard, binOp, Op.intCmp]
theorem Ev.gt (hx : look e x = some (.int k a)) (hy : look e y = some (.int k b)) : Ev P e (.binOp .gtr T x y T') w (.bool (decide (b < a))) :=
  fun w' _ ρ hρ o ho => by simp [execOp, ho, hρ _ _ hx, hρ _ _ hy, eqGuard, binOp, Op.intCmp]
theorem Ev.ge (hx : look e x = some (.int k a)) (hy : look e y = some (.int k b)) : Ev P e (.binOp .geq T x y T') w (.bool (decide (b ≤ a))) :=
  fun w' _ ρ hρ o ho => by simp [execOp, ho, hρ _ _ hx, hρ _ _ hy, eqGuard, binOp, Op.intCmp]
theorem Ev.not {c : Bool} (hx : look e x = some (.bool c)) : Ev P e (.unOp .not T x) w (.bool (!c)) :=
  fun w' _ ρ hρ o ho => by simp [execOp, ho, hρ _ _ hx, Op.unary]
theorem Ev.notD {p : Prop} [Decidable p] (hx : look e x = some (.bool (decide p))) : Ev P e (.unOp .not T x) w (.bool (decide (¬ p))) :=
  fun w' _ ρ hρ o ho => by simp [execOp, ho, hρ _ _ hx, Op.unary]
theorem Ev.shrC (n : Nat) (m : Int) {k' : IntKind} (hx : look e x = some (.int k a)) (hy : look e y = some (.int k' (n : Int))) (hn : n ≤ k.bits) (hm : (2 : Int) ^ n = m) : Ev P e (.binOp .shr T x y T') w (.int k (a / m)) :=
  fun w' _ ρ hρ o ho => by
    subst hm
    have h1 : ¬ ((n : Int) < 0) := by omega
    simp [execOp, ho, hρ _ _ hx, hρ _ _ hy, eqGuard, binOp, Op.shift, h1, Nat.min_eq_left hn]
    exact Int.fdiv_eq_ediv_of_nonneg _ (by exact Int.pow_nonneg (by omega))
end
theorem intBits_and8 (a b : UInt8) : Op.intBits .and .u8 (a.toNat : Int) (b.toNat : Int) = Sem.pure (u8 (a &&& b)) := by
  show Sem.pure (Value.int .u8 (IntKind.u8.wrap ((BitVec.ofInt 8 (a.toNat : Int) &&& BitVec.ofInt 8 (b.toNat : Int)).toNat))) = _
  rw [BitVec.ofInt_natCast, BitVec.ofInt_natCast, IntWalk.u8_in _ (by omega)]
  simp [u8]
theorem intBits_or8 (a b : UInt8) : Op.intBits .or .u8 (a.toNat : Int) (b.toNat : Int) = Sem.pure (u8 (a ||| b)) := by
  show Sem.pure (Value.int .u8 (IntKind.u8.wrap ((BitVec.ofInt 8 (a.toNat : Int) ||| BitVec.ofInt 8 (b.toNat : Int)).toNat))) = _
  rw [BitVec.ofInt_natCast, BitVec.ofInt_natCast, IntWalk.u8_in _ (by omega)]
  simp [u8]
theorem Ev.and8 {a b : UInt8} (hx : look e x = some (u8 a)) (hy : look e y = some (u8 b)) : Ev P e (.binOp .and T x y T') w (u8 (a &&& b)) :=
  fun w' _ ρ hρ o ho => by simp [execOp, ho, hρ _ _ hx, hρ _ _ hy, eqGuard, binOp, intBits_and8]
theorem Ev.or8 {a b : UInt8} (hx : look e x = some (u8 a)) (hy : look e y = some (u8 b)) : Ev P e (.binOp .or T x y T') w (u8 (a ||| b)) :=
  fun w' _ ρ hρ o ho => by simp [execOp, ho, hρ _ _ hx, hρ _ _ hy, eqGuard, binOp, intBits_or8]
theorem Ev.add32 {a b : UInt32} (hx : look e x = some (u32 a)) (hy : look e y = some (u32 b)) : Ev P e (.binOp .add T x y T') w (u32 (a + b)) :=
  fun w' _ ρ hρ o ho => by
    simp [execOp, ho, hρ _ _ hx, hρ _ _ hy, eqGuard, binOp, Op.intArith, IntKind.wrap_u32]
theorem Ev.conv {k k' : IntKind} {a : Int} (hT : P.underlying T' = some (.int k')) {d : TypeDesc} (hS : P.underlying T = some d) (hx : look e x = some (.int k a)) : Ev P e (.convert T T' x) w (.int k' (k'.wrap a)) :=
  fun w' _ ρ hρ o ho => by simp [execOp, ho, hρ _ _ hx, convert, run_underlying hT, run_underlying hS, Conv.intToInt]
theorem Ev.convTo {k k' : IntKind} {a : Int} {d : TypeDesc} (hT : P.underlying T' = some (.int k')) (hS : P.underlying T = some d) (hx : look e x = some (.int k a)) (hr : k'.wrap a = a) : Ev P e (.convert T T' x) w (.int k' a) := (Ev.conv hT hS hx).cast (by rw [hr])
theorem Ev.convU {k : IntKind} {a : Int} {d : TypeDesc} (hT : P.underlying T' = some (.int .u64)) (hS : P.underlying T = some d) (hx : look e x = some (.int k a)) (hr : 0 ≤ a ∧ a ≤ 18446744073709551615) : Ev P e (.convert T T' x) w (.int .u64 a) := .convTo hT hS hx (IntWalk.u64_in _ hr)
theorem Ev.convI {k : IntKind} {a : Int} {d : TypeDesc} (hT : P.underlying T' = some (.int .i64)) (hS : P.underlying T = some d) (hx : look e x = some (.int k a)) (hr : -9223372036854775808 ≤ a ∧ a ≤ 9223372036854775807) : Ev P e (.convert T T' x) w (i64 a) := .convTo hT hS hx (IntWalk.i64_in _ hr)
theorem Ev.lenS {l : Bs} (hT : P.underlying T = some .string) (hx : look e x = some (str l)) : Ev P e (.call { callee := .builtin .len, args := #[x], argTypes := #[T] }) w (i64 l.length) :=
  fun w' _ ρ hρ o ho => by simp [execOp, ho, resolve, invoke, builtin, hρ _ _ hx, Builtin.len_, run_underlying hT, goInt, bs_size]
theorem Ev.len {E : TypeId} {a : Option Addr} {n c : Nat} (hT : P.underlying T = some (.slice E)) (hx : look e x = some (.slice a n c)) : Ev P e (.call { callee := .builtin .len, args := #[x], argTypes := #[T] }) w (i64 n) :=
  fun w' _ ρ hρ o ho => by simp [execOp, ho, resolve, invoke, builtin, hρ _ _ hx, Builtin.len_, run_underlying hT, goInt]
theorem Ev.addS {a b : Bs} (hx : look e x = some (str a)) (hy : look e y = some (str b)) (h : a.length + b.length ≤ 9223372036854775807) : Ev P e (.binOp .add T x y T') w (str (a ++ b)) :=
  fun w' _ ρ hρ o ho => by
    have h1 : ¬ ((((bs a).size + (bs b).size : Nat) : Int) > IntKind.i64.max) := by
      rw [bs_size, bs_size]; show ¬ (_ > (9223372036854775807 : Int)); omega
    simp only [execOp, ho, hρ _ _ hx, hρ _ _ hy, Sem.run_bind, eqGuard, binOp, Op.stringOp, h1, if_false, bs_append]
    simp
theorem Ev.eqB {a b : Bool} (hx : look e x = some (.bool a)) (hy : look e y = some (.bool b)) (hT : P.underlying T = some .bool) : Ev P e (.binOp .eql T x y T') w (.bool (a == b)) :=
  fun w' _ ρ hρ o ho => by
    simp [execOp, ho, hρ _ _ hx, hρ _ _ hy, eqGuard, binOp, run_equal_bool w' _ a b hT]
theorem Ev.neB {a b : Bool} (hx : look e x = some (.bool a)) (hy : look e y = some (.bool b)) (hT : P.underlying T = some .bool) : Ev P e (.binOp .neq T x y T') w (.bool (a != b)) :=
  fun w' _ ρ hρ o ho => by
    simp [execOp, ho, hρ _ _ hx, hρ _ _ hy, eqGuard, binOp, run_equal_bool w' _ a b hT]
    cases a <;> cases b <;> rfl
theorem Ev.eqNil {E : TypeId} {a : Option Addr} {n c : Nat} (hx : look e x = some (.slice a n c)) (hy : look e y = some (.slice none 0 0)) (hT : P.underlying T = some (.slice E)) : Ev P e (.binOp .eql T x y T') w (.bool a.isNone) :=
  fun w' _ ρ hρ o ho => by
    simp [execOp, ho, hρ _ _ hx, hρ _ _ hy, eqGuard, binOp, run_equal_slice_nil w' _ E a n c hT]
theorem Ev.eqS {a b : Bs} (hx : look e x = some (str a)) (hy : look e y = some (str b)) : Ev P e (.binOp .eql T x y T') w (.bool (decide (a = b))) :=
  fun w' _ ρ hρ o ho => by
    simp [execOp, ho, hρ _ _ hx, hρ _ _ hy, eqGuard, binOp, Op.stringOp, bs_toList]
    by_cases h : a = b <;> simp [h]
theorem Ev.neS {a b : Bs} (hx : look e x = some (str a)) (hy : look e y = some (str b)) : Ev P e (.binOp .neq T x y T') w (.bool (decide (¬ a = b))) :=
  fun w' _ ρ hρ o ho => by
    simp [execOp, ho, hρ _ _ hx, hρ _ _ hy, eqGuard, binOp, Op.stringOp, bs_toList]
    by_cases h : a = b <;> simp [h]
end
end Go.Proofs.YthliepcjfnjnoaaGreatDoor
