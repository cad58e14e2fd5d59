
/-
  Regions that draw, in which several slices grow, each by one: threads that keep to their own blocks. No program in sight.
-/
import Derived.Test.YthkgadhamecnlaaLo
import Derived.Test.YthkgadhamecnlaaTree
set_option linter.unusedVariables false
set_option linter.unusedSimpArgs false
set_option maxRecDepth 20000
namespace Go.Proofs.Ythkgadhamecnlaa
open Go
theorem Ext.thenS {S S' : Nat → Prop} {a b c : World} (h : Ext S a b) (k : Ext S' b c) (hs : ∀ i, S' i → i < b.heap.size → S i ∨ a.heap.size ≤ i) : Ext S a c :=
  ⟨k.os.trans h.os, k.tape.trans h.tape, k.output.trans h.output, Nat.le_trans h.size k.size, fun i hi hn => (k.block i (Nat.lt_of_lt_of_le hi h.size) (fun hs' => (hs i hs' (Nat.lt_of_lt_of_le hi h.size)).elim hn (fun hl => by omega))).trans (h.block i hi hn)⟩
/-- does i wait for one that is still to come? -/
def heldB (wt : List (Nat × Nat)) (i : Nat) (c : List (List Nat)) : Bool := wt.any fun p => p.1 == i && c.any fun l => l.contains p.2
/-- all orders of several rows, in which some wait for others -/
def alts (wt : List (Nat × Nat)) (f : List (List Nat) → Tr) : List (List Nat) → List (List Nat) → Tr
  | _, [] => .stop
  | pre, [] :: r => alts wt f (pre ++ [[]]) r
  | pre, (i :: l) :: r => bif heldB wt i (pre ++ l :: r) then alts wt f (pre ++ [i :: l]) r else .alt i (.op i (f (pre ++ l :: r))) (alts wt f (pre ++ [i :: l]) r)
def parT (wt : List (Nat × Nat)) : Nat → List (List Nat) → Tr → Tr
  | 0, _, t => t
  | n + 1, c, t => alts wt (fun c => parT wt n c t) [] c
def getF (a : Act) (d : Nat) : Value := a.tmps.getD d undef
/-- what a thread may do: turn its own blocks, make new ones, fill its slots -/
def Mv (θ : Nat) (ds : List Nat) (γ : Nat → Nat) (f : Nat → Value) (w : World) (γ' : Nat → Nat) (f' : Nat → Value) (w' : World) : Prop :=
  Ext (fun k => k < w.heap.size ∧ γ k = θ) w w' ∧ (∀ k, k < w.heap.size → γ' k = γ k) ∧ ∀ d, d ∉ ds → f' d = f d
structure Th where
  θ : Nat
  ds : List Nat
  T : List Nat → (Nat → Nat) → (Nat → Value) → World → Prop
section
variable {P : Program} {ops : Array Oper} {md : Region.Mode} {C : World → Prop} {act : Nat → Bool} {J : (Nat → Nat) → Act → World → Prop} {Nm : List Nat}
def Good (P : Program) (md : Region.Mode) (ops : Array Oper) (C : World → Prop) (act : Nat → Bool) (J : (Nat → Nat) → Act → World → Prop) (Nm : List Nat) (th : Th) : Prop :=
  th.θ ∈ Nm ∧
  (∀ i l γ a w, th.T (i :: l) γ (getF a) w → J γ a w → mOp P md ops C act i (fun a' w' => ∃ γ', J γ' a' w' ∧ th.T l γ' (getF a') w' ∧ Mv th.θ th.ds γ (getF a) w γ' (getF a') w') a w) ∧
  (∀ l γ f w γ' f' w' θ' ds', θ' ∈ Nm → θ' ≠ th.θ → (∀ d, d ∈ th.ds → d ∉ ds') → Mv θ' ds' γ f w γ' f' w' → th.T l γ f w → th.T l γ' f' w')
def Apart (x y : Th × List Nat) : Prop := x.1.θ ≠ y.1.θ ∧ ∀ d, d ∈ x.1.ds → d ∉ y.1.ds
theorem Apart.symm {x y : Th × List Nat} (h : Apart x y) : Apart y x := ⟨Ne.symm h.1, fun d h1 h2 => h.2 d h2 h1⟩
theorem sum_zero {α : Type} {f : α → Nat} : ∀ (l : List α), (l.map f).sum = 0 → ∀ x ∈ l, f x = 0
  | [], _, x, hx => by cases hx
  | y :: l, h, x, hx => by
    rw [List.map_cons, List.sum_cons] at h
    rcases List.mem_cons.1 hx with rfl | hx
    · omega
    · exact sum_zero l (by omega) x hx
theorem par_wp {wt : List (Nat × Nat)} {Q : Act → World → Prop} {t : Tr} {L : List Th} (hfin : ∀ γ a w, J γ a w → (∀ th ∈ L, th.T [] γ (getF a) w) → wpTr P md ops C act Q t a w) (hG : ∀ th ∈ L, Good P md ops C act J Nm th) :
    ∀ (n : Nat) (ths : List (Th × List Nat)) (γ : Nat → Nat) (a : Act) (w : World), ths.map (·.1) = L → (ths.map (·.2.length)).sum = n → ths.Pairwise Apart → J γ a w → (∀ x ∈ ths, x.1.T x.2 γ (getF a) w) → wpTr P md ops C act Q (parT wt n (ths.map (·.2)) t) a w := by
  intro n
  induction n with
  | zero =>
    intro ths γ a w hL hn _ hJ hT
    refine hfin γ a w hJ (fun th hth => ?_)
    rw [← hL] at hth
    obtain ⟨x, hx, rfl⟩ := List.mem_map.1 hth
    have := hT x hx
    have h0 : x.2.length = 0 := sum_zero ths hn x hx
    rwa [List.length_eq_zero_iff.1 h0] at this
  | succ n ih =>
    intro ths γ a w hL hn hA hJ hT
    show wpTr P md ops C act Q (alts wt (fun c => parT wt n c t) [] (ths.map (·.2))) a w
    have key : ∀ (r pre : List (Th × List Nat)), pre ++ r = ths → wpTr P md ops C act Q (alts wt (fun c => parT wt n c t) (pre.map (·.2)) (r.map (·.2))) a w := by
      intro r
      induction r with
      | nil => intro pre _; exact trivial
      | cons x r ihr =>
        intro pre hpr
        have next := ihr (pre ++ [x]) (by rw [← hpr, List.append_assoc]; rfl)
        rw [List.map_append] at next
        obtain ⟨th, l⟩ := x
        cases l with
        | nil => exact next
        | cons i l =>
          show wpTr P md ops C act Q (bif heldB wt i (pre.map (·.2) ++ l :: r.map (·.2)) then alts wt (fun c => parT wt n c t) (pre.map (·.2) ++ [i :: l]) (r.map (·.2)) else .alt i (.op i (parT wt n (pre.map (·.2) ++ l :: r.map (·.2)) t)) (alts wt (fun c => parT wt n c t) (pre.map (·.2) ++ [i :: l]) (r.map (·.2)))) a w
          cases hheld : heldB wt i (pre.map (·.2) ++ l :: r.map (·.2)) with
          | true => exact next
          | false =>
          refine ⟨?_, next⟩
          show mOp P md ops C act i _ a w
          have hmem : (th, i :: l) ∈ ths := by rw [← hpr]; simp
          have hthL : th ∈ L := by rw [← hL]; exact List.mem_map.2 ⟨_, hmem, rfl⟩
          refine mOp_mono (fun a' w' ⟨γ', hJ', hT', hM⟩ => ?_) ((hG th hthL).2.1 i l γ a w (hT _ hmem) hJ)
          have hst : ∀ y ∈ ths, Apart (th, i :: l) y → y.1.T y.2 γ' (getF a') w' := fun y hy hap => by
            have hyL : y.1 ∈ L := by rw [← hL]; exact List.mem_map.2 ⟨_, hy, rfl⟩
            exact (hG y.1 hyL).2.2 _ _ _ _ _ _ _ _ _ (hG th hthL).1 hap.1 hap.symm.2 hM (hT y hy)
          have hA0 := hA
          rw [← hpr, List.pairwise_append, List.pairwise_cons] at hA
          obtain ⟨h1, ⟨h2, h3⟩, h4⟩ := hA
          have e : pre.map (·.2) ++ l :: r.map (·.2) = (pre ++ (th, l) :: r).map (·.2) := by simp
          have goal := ih (pre ++ (th, l) :: r) γ' a' w' (by rw [← hL, ← hpr]; simp) (by rw [← hpr] at hn; simp at hn ⊢; omega) ?_ hJ' ?_
          · rw [← e] at goal; exact goal
          · rw [List.pairwise_append, List.pairwise_cons]
            exact ⟨h1, ⟨fun y hy => h2 y hy, h3⟩, fun y hy z hz => by
              rcases List.mem_cons.1 hz with rfl | hz
              · exact h4 y hy (th, i :: l) (by simp)
              · exact h4 y hy z (by simp [hz])⟩
          · intro y hy
            rcases List.mem_append.1 hy with hy | hy
            · exact hst y (by rw [← hpr]; simp [hy]) (h4 y hy _ (by simp)).symm
            · rcases List.mem_cons.1 hy with rfl | hy
              · exact hT'
              · exact hst y (by rw [← hpr]; simp [hy]) (h2 y hy)
    exact key ths [] rfl
end
theorem Ag.slot {n : Nat} {e : Env} {a : Act} (h : Ag n e a) (d : Nat) : Ag n ((d, getF a d) :: e) a := by
  obtain ⟨h1, h2, h3⟩ := h
  refine ⟨h1, h2, fun t u hu => ?_⟩
  simp only [Env.get, cond_eq_ite, Nat.beq_eq] at hu
  by_cases hdt : d = t
  · subst hdt; rw [if_pos rfl] at hu; exact Option.some.inj hu
  · rw [if_neg hdt] at hu; exact h3 t u hu
theorem Ag.putN {n : Nat} {e : Env} {a : Act} (h : Ag n e a) {d : Nat} (hd : Nat.blt d n = true) (hn : e.get d = none) (v : Value) : Ag n e (a.put (some d) v) := by
  obtain ⟨h1, h2, h3⟩ := h.put hd v
  refine ⟨h1, h2, fun t u hu => h3 t u ?_⟩
  simp only [Env.get, cond_eq_ite, Nat.beq_eq]
  by_cases hdt : d = t
  · subst hdt; rw [hn] at hu; cases hu
  · rw [if_neg hdt]; exact hu
theorem getF_put {n : Nat} {e : Env} {a : Act} (h : Ag n e a) {d : Nat} (hd : Nat.blt d n = true) (v : Value) : getF (a.put (some d) v) d = v := (h.put hd v).2.2 d v (by simp [Env.get])
theorem getF_ne {a : Act} {d d' : Nat} {v : Value} (hn : d' ≠ d) : getF (a.put (some d) v) d' = getF a d' := by
  unfold getF Act.put
  simp only [Array.getD_eq_getD_getElem?]
  rw [Array.getElem?_setIfInBounds_ne (Ne.symm hn)]
section
variable {F : Fr} {e : Env} {all : List Oper} {al : List Nat} {α : Type} {t : Ty α} {Q S : Nat → Prop} {E : TypeId} {θ κ : Nat} {v u : Value} {xs : List α} {y : α} {d1 d2 i1 i2 : Nat} {w0 : World} {c : Nat → Nat} {Nm : List Nat}
/-- a slice grows by one -/
def growT (t : Ty α) (Q : Nat → Prop) (E : TypeId) (θ κ : Nat) (v u : Value) (xs : List α) (y : α) (d1 d2 i1 i2 : Nat) : Th :=
  ⟨θ, [d1, d2], fun l γ f w => (∀ k, Q k → k < w.heap.size ∧ γ k = κ) ∧ (
    (l = [] ∧ OwnO t Q E w (f d2) (xs ++ [y]) (fun k => γ k = θ)) ∨
    (l = [i2] ∧ (∃ b, b < w.heap.size ∧ γ b = θ ∧ f d1 = .slice (some ⟨b, 0, none⟩) 1 1 ∧ Blk w b E (flat [u])) ∧ t.rep Q w u y ∧ OwnO t Q E w v xs (fun k => γ k = θ)) ∨
    (l = [i1, i2] ∧ t.rep Q w u y ∧ OwnO t Q E w v xs (fun k => γ k = θ)))⟩
/-- what holds while they run -/
def parJ (n : Nat) (e : Env) (S : Nat → Prop) (w0 : World) (c γ : Nat → Nat) (a : Act) (w : World) : Prop := Ag n e a ∧ Ext S w0 w ∧ ∀ k, k < w0.heap.size → γ k = c k
theorem growT_good {ty1 ty2 T : TypeId} {ps1 ps2 : String} {af1 af2 : Array Edge} {x x2 : Operand} {i : TypeInfo} {z : Value} {eb : Nat}
    (hθ : θ ∈ Nm) (hκ : κ ∉ Nm) (hS : ∀ k, k < w0.heap.size → c k = θ → S k)
    (ho1 : all[i1]? = some ⟨some d1, .buildSlice T 1 #[(0, x)], ty1, ps1, af1, none⟩) (ho2 : all[i2]? = some ⟨some d2, .call { callee := .builtin .append, args := #[x2, .tmp d1], argTypes := #[T, T] }, ty2, ps2, af2, none⟩)
    (ha1 : al.contains i1 = true) (ha2 : al.contains i2 = true) (hd1 : Nat.blt d1 F.n = true) (hd2 : Nat.blt d2 F.n = true) (hn1 : e.get d1 = none) (hn2 : e.get d2 = none) (hne : d1 ≠ d2)
    (hx : look e x = some u) (hx2 : look e x2 = some v) (hT : F.P.underlying T = some (.slice E)) (hb : ∀ w, (Instr.buildSlice T 1 #[(0, u)]).run F.P w = .ok (.slice (some ⟨w.heap.size, 0, none⟩) 1 1) (w.alloc (.cells (flat [u]).toArray E)))
    (hi : F.P.info? E = some i) (hz : i.zero = some z) (hs : i.size = t.size) (hzs : z.cells.size = t.size) (hby : i.bytes = eb) (hlim : (xs.length + 1) * eb ≤ 140737488355328) (hlen : xs.length + 1 < Lim) :
    Good F.P .any all.toArray (Ext S w0) (fun j => al.contains j) (parJ F.n e S w0 c) Nm (growT t Q E θ κ v u xs y d1 d2 i1 i2) := by
  refine ⟨hθ, ?_, ?_⟩
  · rintro j l γ a w ⟨hQ, hst⟩ ⟨hAg, hX, hc⟩
    have hz0 := hX.size
    rcases hst with ⟨h, _⟩ | ⟨h, ⟨b, hbl, hbc, hbv, hB⟩, hre, hO⟩ | ⟨h, hre, hO⟩
    · cases h
    · obtain ⟨rfl, rfl⟩ : j = i2 ∧ l = [] := by injection h with h1 h2; exact ⟨h1, h2⟩
      have hAg1 : Ag F.n ((d1, .slice (some ⟨b, 0, none⟩) 1 1) :: e) a := by have := hAg.slot d1; rwa [hbv] at this
      have hx2' : look ((d1, .slice (some ⟨b, 0, none⟩) 1 1) :: e) x2 = some v := by
        cases x2 with
        | tmp q =>
          simp only [look, Env.get, cond_eq_ite, Nat.beq_eq] at hx2 ⊢
          by_cases hq : d1 = q
          · subst hq; rw [hn1] at hx2; cases hx2
          · rw [if_neg hq]; exact hx2
        | const q => exact hx2
        | global q => exact hx2
        | func q => exact hx2
      have hsrc : (Sl t).rep (fun _ => True) w (.slice (some ⟨b, 0, none⟩) 1 1) [y] := Sl.mk (us := [u]) (.cons (t.mono hre (fun _ _ _ => trivial)) .nil) hB.cells trivial hbl (by simp) (by show 1 < Lim; decide) rfl
      have hsrc' : (Sl t).rep (fun k => Q k ∨ k = b) w (.slice (some ⟨b, 0, none⟩) 1 1) [y] := Sl.mk (us := [u]) (.cons (t.mono hre (fun _ h _ => .inl h)) .nil) hB.cells (.inr rfl) hbl (by simp) (by show 1 < Lim; decide) rfl
      have hd := DoV.appendLo (P := F.P) (t := t) (Q := Q) (xs := xs) (ys := [y]) (B := fun k => (γ k = θ ∧ k < w.heap.size) ∨ w.heap.size ≤ k) (T := T) (T' := T) (E := E) (y := .tmp d1) hx2' (OwnO.mono hO (fun _ h _ => h) (fun k h hk => .inl ⟨h, hk⟩)) (fun k hk => .inr hk) (by simp [look, Env.get]) (.inr (.inr ⟨b, 0, 1, [u], rfl, .cons hre .nil, hB.cells⟩)) hT hT hi hz hs hzs hby hlim hlen (fun k hq hk hB => by
        obtain ⟨_, hk2⟩ := hQ k hq
        rcases hB with ⟨h, _⟩ | h
        · rw [hk2] at h; subst h; exact hκ hθ
        · omega)
      obtain ⟨r, w2, w3, hr, hs3, hO2, hX2⟩ := hd w (.refl w) a.eval (fun q u hq => hAg1.ev hq) ⟨some d2, .call { callee := .builtin .append, args := #[x2, .tmp d1], argTypes := #[T, T] }, ty2, ps2, af2, none⟩ rfl
      have hX3 : Ext (fun _ => False) w2 w3 := Ext.same hs3
      unfold mOp
      rw [show all.toArray[j]? = _ by simpa using ho2]
      simp only [ha2]
      rw [if_pos (gd_wanted hAg rfl), if_pos trivial]
      unfold does
      rw [hr]
      have hX23 : Ext (fun k => (γ k = θ ∧ k < w.heap.size) ∨ w.heap.size ≤ k) w w3 := hX2.trans (hX3.mono (fun _ _ h => h.elim))
      have hXM : Ext (fun k => k < w.heap.size ∧ γ k = θ) w w3 := (Ext.refl w).thenS hX23 (fun k h hk => .inl (by rcases h with h | h; exact ⟨h.2, h.1⟩; omega))
      have hC : Ext S w0 w3 := hX.thenS hXM (fun k h hk => by
        by_cases hk0 : k < w0.heap.size
        · exact .inl (hS k hk0 ((hc k hk0).symm.trans h.2))
        · exact .inr (by omega))
      refine ⟨.inl hC, fun k => if k < w.heap.size then γ k else θ, ⟨hAg.putN hd2 hn2 r, hC, fun k hk => by show (if _ then _ else _) = _; rw [if_pos (by omega)]; exact hc k hk⟩, ⟨fun k hq => ?_, .inl ⟨rfl, ?_⟩⟩, hXM, fun k hk => if_pos hk, fun d hd => getF_ne (fun h => by subst h; exact hd (by simp [growT]))⟩
      · obtain ⟨h1, h2⟩ := hQ k hq
        exact ⟨Nat.lt_of_lt_of_le h1 hX23.size, by show (if _ then _ else _) = _; rw [if_pos h1]; exact h2⟩
      · show OwnO t Q E w3 (getF (a.put (some d2) r) d2) _ _
        rw [getF_put hAg hd2]
        refine OwnO.mono (OwnO.ext0 hO2 hX3) (fun _ h _ => h) (fun k h _ => ?_)
        show (if _ then _ else _) = _
        rcases h with h | h
        · rw [if_pos h.2]; exact h.1
        · rw [if_neg (by omega)]
    · obtain ⟨rfl, rfl⟩ : j = i1 ∧ l = [i2] := by injection h with h1 h2; exact ⟨h1, h2⟩
      have hd := DoV.lits (P := F.P) (e := e) (w := w) (T := T) (E := E) (ps := [(0, x)]) (vs := [(0, u)]) (n := 1) (by simp [hx]) hT hb
      obtain ⟨r, w2, w3, hr, hs3, rfl, N2⟩ := hd w (.refl w) a.eval (fun q u hq => hAg.ev hq) ⟨some d1, .buildSlice T 1 #[(0, x)], ty1, ps1, af1, none⟩ rfl
      have hX3 : Ext (fun _ => False) w2 w3 := Ext.same hs3
      have hX23 : Ext (fun _ => False) w w3 := N2.ext.trans hX3
      unfold mOp
      rw [show all.toArray[j]? = _ by simpa using ho1]
      simp only [ha1]
      rw [if_pos (gd_wanted hAg rfl), if_pos trivial]
      unfold does
      rw [hr]
      have hC : Ext S w0 w3 := hX.trans (hX23.mono (fun _ _ h => h.elim))
      have hB3 := N2.blk.ext hX3 (fun x => x)
      refine ⟨.inl hC, fun k => if k < w.heap.size then γ k else θ, ⟨hAg.putN hd1 hn1 _, hC, fun k hk => by show (if _ then _ else _) = _; rw [if_pos (by omega)]; exact hc k hk⟩, ⟨fun k hq => ?_, .inr (.inl ⟨rfl, ⟨w.heap.size, hB3.lt, if_neg (Nat.lt_irrefl _), getF_put hAg hd1 _, hB3⟩, t.ext0 hre hX23, ?_⟩)⟩, hX23.mono (fun _ _ h => h.elim), fun k hk => if_pos hk, fun d hd => getF_ne (fun h => by subst h; exact hd (by simp [growT]))⟩
      · obtain ⟨h1, h2⟩ := hQ k hq
        exact ⟨Nat.lt_of_lt_of_le h1 hX23.size, by show (if _ then _ else _) = _; rw [if_pos h1]; exact h2⟩
      · refine OwnO.ext0 (OwnO.mono hO (fun _ h _ => h) (fun k h hk => ?_)) hX23
        show (if _ then _ else _) = _
        rw [if_pos hk]; exact h
  · rintro l γ f w γ' f' w' θ' ds' hθ' hne' hds ⟨hX, hγ, hf⟩ ⟨hQ, hst⟩
    have hnQ : ∀ k, Q k → k < w.heap.size → ¬ (k < w.heap.size ∧ γ k = θ') := fun k hq _ h => by
      have := (hQ k hq).2
      rw [this] at h
      exact hκ (h.2 ▸ hθ')
    have hO' : ∀ {r : Value} {l : List α}, OwnO t Q E w r l (fun k => γ k = θ) → OwnO t Q E w' r l (fun k => γ' k = θ) := fun h =>
      OwnO.ext (OwnO.mono h (fun _ h _ => h) (fun k h hk => (hγ k hk).trans h)) hX (fun k h hk h' => hne' (h'.2.symm.trans ((hγ k hk).symm.trans h))) hnQ
    refine ⟨fun k hq => ⟨Nat.lt_of_lt_of_le (hQ k hq).1 hX.size, (hγ k (hQ k hq).1).trans (hQ k hq).2⟩, ?_⟩
    rcases hst with ⟨h, hO⟩ | ⟨h, ⟨b, hbl, hbc, hbv, hB⟩, hre, hO⟩ | ⟨h, hre, hO⟩
    · refine .inl ⟨h, ?_⟩
      rw [hf d2 (hds d2 (by simp [growT]))]
      exact hO' hO
    · refine .inr (.inl ⟨h, ⟨b, Nat.lt_of_lt_of_le hbl hX.size, (hγ b hbl).trans hbc, (hf d1 (hds d1 (by simp [growT]))).trans hbv, hB.ext hX (fun h' => hne' (h'.2.symm.trans hbc))⟩, t.ext hre hX hnQ, hO' hO⟩)
    · exact .inr (.inr ⟨h, t.ext hre hX hnQ, hO' hO⟩)
/-- two slices grow by one each -/
theorem N.grow2 {wt : List (Nat × Nat)} {β : Type} {t2 : Ty β} {Q2 : Nat → Prop} {E2 : TypeId} {θ2 κ2 : Nat} {v2 u2 : Value} {ys : List β} {y2 : β} {d3 d4 i3 i4 : Nat} {tr : Tr} {k : List It} {w : World}
    (h1 : Good F.P .any all.toArray (Ext S w) (fun j => al.contains j) (parJ F.n e S w c) [θ, θ2] (growT t Q E θ κ v u xs y d1 d2 i1 i2)) (h2 : Good F.P .any all.toArray (Ext S w) (fun j => al.contains j) (parJ F.n e S w c) [θ, θ2] (growT t2 Q2 E2 θ2 κ2 v2 u2 ys y2 d3 d4 i3 i4))
    (hO1 : OwnO t Q E w v xs (fun k => c k = θ)) (hr1 : t.rep Q w u y) (hq1 : ∀ k, Q k → k < w.heap.size ∧ c k = κ) (hO2 : OwnO t2 Q2 E2 w v2 ys (fun k => c k = θ2)) (hr2 : t2.rep Q2 w u2 y2) (hq2 : ∀ k, Q2 k → k < w.heap.size ∧ c k = κ2)
    (hθ : θ ≠ θ2) (hds : ∀ d, d ∈ [d1, d2] → d ∉ [d3, d4])
    (next : ∀ (r1 r2 : Value) (γ : Nat → Nat) (w2 : World), Ext S w w2 → (∀ k, k < w.heap.size → γ k = c k) → OwnO t Q E w2 r1 (xs ++ [y]) (fun k => γ k = θ) → OwnO t2 Q2 E2 w2 r2 (ys ++ [y2]) (fun k => γ k = θ2) → N F S w al ((d4, r2) :: (d2, r1) :: e) all tr k w2) :
    N F S w al e all (parT wt 4 [[i1, i2], [i3, i4]] tr) k w := by
  intro hX w' hw a ha
  have hXs : Ext (fun _ => False) w w' := Ext.same hw
  refine par_wp (J := parJ F.n e S w c) (Nm := [θ, θ2]) (L := [growT t Q E θ κ v u xs y d1 d2 i1 i2, growT t2 Q2 E2 θ2 κ2 v2 u2 ys y2 d3 d4 i3 i4]) ?_ ?_ 4 [(growT t Q E θ κ v u xs y d1 d2 i1 i2, [i1, i2]), (growT t2 Q2 E2 θ2 κ2 v2 u2 ys y2 d3 d4 i3 i4, [i3, i4])] c a w' rfl rfl ?_ ⟨ha, .same hw, fun _ _ => rfl⟩ ?_
  · rintro γ a2 w2 ⟨hAg, hX2, hc⟩ hT
    obtain ⟨_, ⟨_, g1⟩ | ⟨h, _⟩ | ⟨h, _⟩⟩ := hT (growT t Q E θ κ v u xs y d1 d2 i1 i2) (by simp)
    · obtain ⟨_, ⟨_, g2⟩ | ⟨h, _⟩ | ⟨h, _⟩⟩ := hT (growT t2 Q2 E2 θ2 κ2 v2 u2 ys y2 d3 d4 i3 i4) (by simp)
      · exact next _ _ γ w2 hX2 hc g1 g2 hX2 w2 (.refl w2) a2 ((hAg.slot d2).slot d4)
      · cases h
      · cases h
    · cases h
    · cases h
  · intro th hth
    rcases List.mem_cons.1 hth with rfl | hth
    · exact h1
    · rcases List.mem_cons.1 hth with rfl | hth
      · exact h2
      · cases hth
  · exact List.pairwise_pair.2 ⟨hθ, hds⟩
  · intro x hx
    rcases List.mem_cons.1 hx with rfl | hx
    · exact ⟨fun k h => ⟨Nat.lt_of_lt_of_le (hq1 k h).1 hXs.size, (hq1 k h).2⟩, .inr (.inr ⟨rfl, t.ext0 hr1 hXs, OwnO.ext0 hO1 hXs⟩)⟩
    · rcases List.mem_cons.1 hx with rfl | hx
      · exact ⟨fun k h => ⟨Nat.lt_of_lt_of_le (hq2 k h).1 hXs.size, (hq2 k h).2⟩, .inr (.inr ⟨rfl, t2.ext0 hr2 hXs, OwnO.ext0 hO2 hXs⟩)⟩
      · cases hx
/-- three slices grow by one each -/
theorem N.grow3 {wt : List (Nat × Nat)} {β δ : Type} {t2 : Ty β} {Q2 : Nat → Prop} {E2 : TypeId} {θ2 κ2 : Nat} {v2 u2 : Value} {ys : List β} {y2 : β} {d3 d4 i3 i4 : Nat} {t3 : Ty δ} {Q3 : Nat → Prop} {E3 : TypeId} {θ3 κ3 : Nat} {v3 u3 : Value} {zs : List δ} {y3 : δ} {d5 d6 i5 i6 : Nat} {tr : Tr} {k : List It} {w : World}
    (h1 : Good F.P .any all.toArray (Ext S w) (fun j => al.contains j) (parJ F.n e S w c) [θ, θ2, θ3] (growT t Q E θ κ v u xs y d1 d2 i1 i2)) (h2 : Good F.P .any all.toArray (Ext S w) (fun j => al.contains j) (parJ F.n e S w c) [θ, θ2, θ3] (growT t2 Q2 E2 θ2 κ2 v2 u2 ys y2 d3 d4 i3 i4)) (h3 : Good F.P .any all.toArray (Ext S w) (fun j => al.contains j) (parJ F.n e S w c) [θ, θ2, θ3] (growT t3 Q3 E3 θ3 κ3 v3 u3 zs y3 d5 d6 i5 i6))
    (hO1 : OwnO t Q E w v xs (fun k => c k = θ)) (hr1 : t.rep Q w u y) (hq1 : ∀ k, Q k → k < w.heap.size ∧ c k = κ) (hO2 : OwnO t2 Q2 E2 w v2 ys (fun k => c k = θ2)) (hr2 : t2.rep Q2 w u2 y2) (hq2 : ∀ k, Q2 k → k < w.heap.size ∧ c k = κ2) (hO3 : OwnO t3 Q3 E3 w v3 zs (fun k => c k = θ3)) (hr3 : t3.rep Q3 w u3 y3) (hq3 : ∀ k, Q3 k → k < w.heap.size ∧ c k = κ3)
    (hθ : θ ≠ θ2 ∧ θ ≠ θ3 ∧ θ2 ≠ θ3) (hds : (∀ d, d ∈ [d1, d2] → d ∉ [d3, d4]) ∧ (∀ d, d ∈ [d1, d2] → d ∉ [d5, d6]) ∧ (∀ d, d ∈ [d3, d4] → d ∉ [d5, d6]))
    (next : ∀ (r1 r2 r3 : Value) (γ : Nat → Nat) (w2 : World), Ext S w w2 → (∀ k, k < w.heap.size → γ k = c k) → OwnO t Q E w2 r1 (xs ++ [y]) (fun k => γ k = θ) → OwnO t2 Q2 E2 w2 r2 (ys ++ [y2]) (fun k => γ k = θ2) → OwnO t3 Q3 E3 w2 r3 (zs ++ [y3]) (fun k => γ k = θ3) → N F S w al ((d6, r3) :: (d4, r2) :: (d2, r1) :: e) all tr k w2) :
    N F S w al e all (parT wt 6 [[i1, i2], [i3, i4], [i5, i6]] tr) k w := by
  intro hX w' hw a ha
  have hXs : Ext (fun _ => False) w w' := Ext.same hw
  refine par_wp (J := parJ F.n e S w c) (Nm := [θ, θ2, θ3]) (L := [growT t Q E θ κ v u xs y d1 d2 i1 i2, growT t2 Q2 E2 θ2 κ2 v2 u2 ys y2 d3 d4 i3 i4, growT t3 Q3 E3 θ3 κ3 v3 u3 zs y3 d5 d6 i5 i6]) ?_ ?_ 6 [(growT t Q E θ κ v u xs y d1 d2 i1 i2, [i1, i2]), (growT t2 Q2 E2 θ2 κ2 v2 u2 ys y2 d3 d4 i3 i4, [i3, i4]), (growT t3 Q3 E3 θ3 κ3 v3 u3 zs y3 d5 d6 i5 i6, [i5, i6])] c a w' rfl rfl ?_ ⟨ha, .same hw, fun _ _ => rfl⟩ ?_
  · rintro γ a2 w2 ⟨hAg, hX2, hc⟩ hT
    obtain ⟨_, g1⟩ := hT (growT t Q E θ κ v u xs y d1 d2 i1 i2) (by simp)
    obtain ⟨_, g2⟩ := hT (growT t2 Q2 E2 θ2 κ2 v2 u2 ys y2 d3 d4 i3 i4) (by simp)
    obtain ⟨_, g3⟩ := hT (growT t3 Q3 E3 θ3 κ3 v3 u3 zs y3 d5 d6 i5 i6) (by simp)
    have pick : ∀ {p q r : Prop} {i j l : Nat}, (([] : List Nat) = [] ∧ p) ∨ (([] : List Nat) = [i] ∧ q) ∨ (([] : List Nat) = [j, l] ∧ r) → p := fun h => by
      rcases h with ⟨_, h⟩ | ⟨h, _⟩ | ⟨h, _⟩
      · exact h
      · cases h
      · cases h
    exact next _ _ _ γ w2 hX2 hc (pick g1) (pick g2) (pick g3) hX2 w2 (.refl w2) a2 (((hAg.slot d2).slot d4).slot d6)
  · intro th hth
    rcases List.mem_cons.1 hth with rfl | hth
    · exact h1
    · rcases List.mem_cons.1 hth with rfl | hth
      · exact h2
      · rcases List.mem_cons.1 hth with rfl | hth
        · exact h3
        · cases hth
  · refine List.pairwise_cons.2 ⟨fun x hx => ?_, List.pairwise_pair.2 ⟨hθ.2.2, hds.2.2⟩⟩
    rcases List.mem_cons.1 hx with rfl | hx
    · exact ⟨hθ.1, hds.1⟩
    · rcases List.mem_cons.1 hx with rfl | hx
      · exact ⟨hθ.2.1, hds.2.1⟩
      · cases hx
  · intro x hx
    rcases List.mem_cons.1 hx with rfl | hx
    · exact ⟨fun k h => ⟨Nat.lt_of_lt_of_le (hq1 k h).1 hXs.size, (hq1 k h).2⟩, .inr (.inr ⟨rfl, t.ext0 hr1 hXs, OwnO.ext0 hO1 hXs⟩)⟩
    · rcases List.mem_cons.1 hx with rfl | hx
      · exact ⟨fun k h => ⟨Nat.lt_of_lt_of_le (hq2 k h).1 hXs.size, (hq2 k h).2⟩, .inr (.inr ⟨rfl, t2.ext0 hr2 hXs, OwnO.ext0 hO2 hXs⟩)⟩
      · rcases List.mem_cons.1 hx with rfl | hx
        · exact ⟨fun k h => ⟨Nat.lt_of_lt_of_le (hq3 k h).1 hXs.size, (hq3 k h).2⟩, .inr (.inr ⟨rfl, t3.ext0 hr3 hXs, OwnO.ext0 hO3 hXs⟩)⟩
        · cases hx
end
end Go.Proofs.Ythkgadhamecnlaa
