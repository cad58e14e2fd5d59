import Derived.Test.YtpfehnopghffjaaGreatDoorQ04
set_option linter.unusedVariables false
set_option maxRecDepth 20000
set_option linter.unusedSimpArgs false
/-
  Structs as data: pairs of kinds, cells side by side. No program in sight.
-/
namespace Go.Proofs.YtpfehnopghffjaaGreatDoor
open Go Go.RowKit

/-- two kinds side by side, as a struct's fields lie -/
def Ty.pair {α β : Type} (s : Ty α) (t : Ty β) : Ty (α × β) where
  size := s.size + t.size
  rep P w v x := ∃ u u', v = .agg (u.cells ++ u'.cells) ∧ s.rep P w u x.1 ∧ t.rep P w u' x.2
  sz := by
    rintro P w _ x ⟨u, u', rfl, h1, h2⟩
    show (u.cells ++ u'.cells).size = _
    rw [Array.size_append, s.sz h1, t.sz h2]
  one := by
    rintro P w _ x ⟨u, u', rfl, h1, h2⟩ c hc
    have hc' : c ∈ (u.cells ++ u'.cells).toList := hc
    rw [Array.toList_append, List.mem_append] at hc'
    rcases hc' with h | h
    · exact s.one h1 c h
    · exact t.one h2 c h
  keep := by
    rintro P w w' _ x ⟨u, u', rfl, h1, h2⟩ hk
    exact ⟨u, u', rfl, s.keep h1 hk, t.keep h2 hk⟩
  mono := by
    rintro P P' w _ x ⟨u, u', rfl, h1, h2⟩ hk
    exact ⟨u, u', rfl, s.mono h1 hk, t.mono h2 hk⟩
/-- a kind under another name -/
def Ty.map {α β : Type} (t : Ty α) (f : β → α) : Ty β where
  size := t.size
  rep P w v y := t.rep P w v (f y)
  sz := fun h => t.sz h
  one := fun h => t.one h
  keep := fun h hk => t.keep h hk
  mono := fun h hk => t.mono h hk
/-! results that lie in cells -/
inductive ResEv (P : Program) (e : Env) (w : World) : List ResultVar → List Value → Prop where
  | nil : ResEv P e w [] []
  | tmp {t : Nat} {v : Value} {r : List ResultVar} {vs : List Value} : e.get t = some v → ResEv P e w r vs → ResEv P e w (.tmp t :: r) (v :: vs)
  | cell {a b o n : Nat} {T : TypeId} {d : TypeDesc} {cs : List Value} {r : List ResultVar} {vs : List Value} : e.get a = some (.pointer (some ⟨b, o, none⟩)) → P.underlying T = some d → aggD d = true → sizeIs P T n → cs.length = n → Cells w b o cs → ResEv P e w r vs →
      ResEv P e w (.cell a T :: r) (.agg cs.toArray :: vs)
theorem ResEv.run {P : Program} {e : Env} {w w' : World} {n : Sz} {a : Act} (hw : Same w w') (ha : Ag n e a) (f : ResultVar → Sem Value) (hf : ∀ t, f (.tmp t) = pure (a.tmps.getD t undef)) (hc : ∀ c T, f (.cell c T) = (do loadVar T (← asAddr (a.tmps.getD c undef)))) {l : List ResultVar} {vs : List Value} (h : ResEv P e w l vs) :
    (l.mapM f).run P w' = .ok vs w' := by
  induction h with
  | nil => rfl
  | tmp h1 _ ih =>
    have := ha.2.2 _ _ h1
    simp [List.mapM_cons, hf, this, ih]
  | cell h1 hT hd hs hn hcs _ ih =>
    have := ha.2.2 _ _ h1
    subst hn
    have hl := hcs.load P (.same hw)
    simp [List.mapM_cons, hc, this, ih, asAddr, loadVar, isAgg_run hT, hd, hs.run, hl]
theorem results_ev {P : Program} {e : Env} {w w' : World} {n : Sz} {a : Act} {fn : Func} {vs : List Value} (hw : Same w w') (ha : Ag n e a) (h : ResEv P e w fn.results.toList vs) : (results fn a.tmps).run P w' = .ok (outV vs) w' := by
  unfold results
  rw [Sem.run_bind, Array.mapM_eq_mapM_toList]
  rw [Sem.run_map, h.run hw ha _ (fun t => by rfl) (fun c T => by rfl)]
  simp only [Result.andThen_ok]
  match vs with
  | [] => rfl
  | [v] => rfl
  | v :: u :: r => simp [outV]
theorem G.retR {P : Program} {fn : Func} {n : Nat} {Post : Value → World → Prop} {e : Env} {k : List It} {w : World} {vs : List Value}
    (hv : ResEv P e w fn.results.toList vs) (hp : Post (outV vs) w) : G ⟨P, ⟨n, []⟩, bodyPost P fn (Ret Post)⟩ e .ret k w :=
  fun w' hw a ha => wp_ret (post_ret k a w' ⟨ha.1, outV vs, results_ev hw ha hv, outV vs, w, hw, rfl, hp⟩)
/-! from a row's reading of a struct -/
def OpensFs (P : Program) (off : Nat) (fs : List Field) {α : Type} (t : Ty α) (ag : Bool) : Prop :=
  ∀ (H : Type) (enc : TypeId × Value → H) (w : World) (n : Nat) (cs : List Value) (xs : List (DataW H × List MemPlace)), xs.length = fs.length →
    (∀ (i : Nat) (f : Field), fs[i]? = some f → DataW.trod enc P w 0 (fun _ => true) true n f.type ((cs.drop f.offset).take (P.cellsOf f.type)) = xs[i]?) →
    (DataW.weightsEach P (fs.map (·.type)) (xs.map (·.1))).all (· ≤ reachBytes) = true → ∃ u y, u.cells.toList = (cs.drop off).take t.size ∧ t.rep All w u y ∧ (ag = true → isAggV u = true)
theorem opensFs_one {P : Program} {f : Field} {α : Type} {t : Ty α} (ho : Opens P f.type t) (hc : P.cellsOf f.type = t.size) : OpensFs P f.offset [f] t false := by
  intro H enc w n cs xs hl hf hw
  match xs, hl with
  | [x], _ =>
    have h1 := hf 0 f rfl
    simp only [List.getElem?_cons_zero] at h1
    have hw' : (x.1.weights P f.type).all (· ≤ reachBytes) = true := by simpa [DataW.weightsEach] using hw
    obtain ⟨u, y, e, hr, _⟩ := ho H enc w n _ _ h1 hw'
    exact ⟨u, y, by rw [e, hc], hr, fun h => by cases h⟩
theorem opensFs_cons {P : Program} {f : Field} {fs : List Field} {α β : Type} {s : Ty α} {t : Ty β} {ag : Bool} {off : Nat} (ho : Opens P f.type s) (hc : P.cellsOf f.type = s.size) (hr : OpensFs P off fs t ag) (hoff : off = f.offset + s.size) : OpensFs P f.offset (f :: fs) (s.pair t) true := by
  intro H enc w n cs xs hl hf hw
  match xs, hl with
  | x :: xs, hl =>
    have h1 := hf 0 f rfl
    simp only [List.getElem?_cons_zero] at h1
    have hw' : (x.1.weights P f.type).all (· ≤ reachBytes) = true ∧ (DataW.weightsEach P (fs.map (·.type)) (xs.map (·.1))).all (· ≤ reachBytes) = true := by
      simp only [List.map_cons, DataW.weightsEach, List.all_append, Bool.and_eq_true] at hw
      exact hw
    obtain ⟨u, y, e, hu, _⟩ := ho H enc w n _ _ h1 hw'.1
    obtain ⟨u', y', e', hu', _⟩ := hr H enc w n cs xs (by simpa using hl) (fun i g hg => by have := hf (i + 1) g (by simpa using hg); simpa using this) hw'.2
    refine ⟨.agg (u.cells ++ u'.cells), (y, y'), ?_, ⟨u, u', rfl, hu, hu'⟩, fun _ => rfl⟩
    show (u.cells ++ u'.cells).toList = _
    rw [Array.toList_append, e, e', hc, hoff, ← List.drop_drop]
    show _ = List.take (s.size + t.size) _
    rw [List.take_add]
theorem opens_struct {P : Program} {T : TypeId} {fs : List Field} {α β : Type} {t : Ty α} {f : β → α} (g : α → β) (hg : ∀ y, f (g y) = y) (hT : P.underlying T = some (.struct fs.toArray)) (hf : OpensFs P 0 fs t true) (hc : P.cellsOf T = t.size) : Opens P T (t.map f) := by
  intro H enc w fuel cs x h hwt
  obtain ⟨xs, n, _, rfl, hl, hlen, hfs⟩ := DataW.trod_struct hT h
  have hwt' : (DataW.weightsEach P (fs.map (·.type)) (xs.map (·.1))).all (· ≤ reachBytes) = true := by
    simp only [DataW.weights, hT] at hwt
    simpa using hwt
  obtain ⟨u, y, e, hr, ha⟩ := hf H enc w n cs xs (by simpa using hlen) (fun i f hi => hfs i f (by simpa using hi)) hwt'
  refine ⟨u, g y, ?_, ?_, by rw [hT, ha rfl]; rfl⟩
  · rw [e, List.drop_zero, List.take_of_length_le (by omega)]
  · show t.rep All w u (f (g y))
    rw [hg]
    exact hr
end Go.Proofs.YtpfehnopghffjaaGreatDoor
/-
  Layer 2, data: disks, writes, acts; what the walks come to.
-/
namespace Go.Proofs.YtpfehnopghffjaaGreatDoor
open Go
theorem Sl.isNone {α : Type} {t : Ty α} {P : Nat → Prop} {w : World} {a : Option Addr} {n cap : Nat} {xs : List α} (h : (Sl t).rep P w (.slice a n cap) xs) (ha : a.isNone = true) : xs = [] := by
  obtain ⟨_, a', cap', e, _, ⟨rfl, _⟩ | ⟨b, o, us, rfl, _⟩⟩ := h
  · rfl
  · cases e; cases ha
namespace disk
structure Put where
  sector : Int
  data : Bs
deriving DecidableEq
structure Disk where
  count : Int
  data : Bs
  waits : List Put
deriving DecidableEq
structure Act where
  flush : Bool
  put : Put
deriving DecidableEq
def tPut : Ty Put := (tInt.pair tBytes).map (fun p => (p.sector, p.data))
def tDisk : Ty Disk := (tInt.pair (tBytes.pair (Sl tPut))).map (fun d => (d.count, d.data, d.waits))
def tAct : Ty Act := (tBool.pair tPut).map (fun a => (a.flush, a.put))
section
variable {P : Nat → Prop} {w : World} {v : Value}
theorem tBytes_one {u : Value} {l : Bs} (h : tBytes.rep P w u l) : u.cells = #[u] := by obtain ⟨a, cap, rfl, _⟩ := Sl.val h; rfl
theorem Sl_one {α : Type} {t : Ty α} {u : Value} {l : List α} (h : (Sl t).rep P w u l) : u.cells = #[u] := by obtain ⟨a, cap, rfl, _⟩ := Sl.val h; rfl
theorem tPut.val {p : Put} (h : tPut.rep P w v p) : ∃ u, v = .agg #[i64 p.sector, u] ∧ tBytes.rep P w u p.data ∧ -9223372036854775808 ≤ p.sector ∧ p.sector ≤ 9223372036854775807 := by
  obtain ⟨u, u', rfl, ⟨rfl, h1⟩, h2⟩ := h
  refine ⟨u', ?_, h2, h1⟩
  rw [tBytes_one h2]
  rfl
theorem tPut.mk {p : Put} {u : Value} (h : tBytes.rep P w u p.data) (h1 : -9223372036854775808 ≤ p.sector ∧ p.sector ≤ 9223372036854775807) : tPut.rep P w (.agg #[i64 p.sector, u]) p := by
  refine ⟨i64 p.sector, u, ?_, ⟨rfl, h1⟩, h⟩
  rw [tBytes_one h]
  rfl
theorem tDisk.val {d : Disk} (h : tDisk.rep P w v d) : ∃ u u', v = .agg #[i64 d.count, u, u'] ∧ tBytes.rep P w u d.data ∧ (Sl tPut).rep P w u' d.waits ∧ -9223372036854775808 ≤ d.count ∧ d.count ≤ 9223372036854775807 := by
  obtain ⟨c, _, rfl, ⟨rfl, h1⟩, u, u', rfl, h2, h3⟩ := h
  refine ⟨u, u', ?_, h2, h3, h1⟩
  rw [tBytes_one h2, Sl_one h3]
  rfl
theorem tDisk.mk {d : Disk} {u u' : Value} (h : tBytes.rep P w u d.data) (h' : (Sl tPut).rep P w u' d.waits) (h1 : -9223372036854775808 ≤ d.count ∧ d.count ≤ 9223372036854775807) : tDisk.rep P w (.agg #[i64 d.count, u, u']) d := by
  refine ⟨i64 d.count, .agg (u.cells ++ u'.cells), ?_, ⟨rfl, h1⟩, u, u', rfl, h, h'⟩
  rw [tBytes_one h, Sl_one h']
  rfl
theorem tAct.val {a : Act} (h : tAct.rep P w v a) : ∃ u, v = .agg #[.bool a.flush, i64 a.put.sector, u] ∧ tBytes.rep P w u a.put.data ∧ -9223372036854775808 ≤ a.put.sector ∧ a.put.sector ≤ 9223372036854775807 := by
  obtain ⟨u, u', rfl, rfl, h2⟩ := h
  obtain ⟨x, rfl, h3, h4⟩ := tPut.val h2
  exact ⟨x, rfl, h3, h4⟩
end
/-- may a disk be? -/
def okPut (count : Int) (p : Put) : Bool := decide (0 ≤ p.sector ∧ p.sector < count ∧ p.data.length = 128)
def checkF (d : Disk) : Int :=
  if d.count < 1 ∨ 4096 < d.count ∨ ¬ (d.data.length : Int) = d.count * 128 ∨ 4096 < d.waits.length then 20 else if d.waits.all (okPut d.count) then 0 else 20
end disk
end Go.Proofs.YtpfehnopghffjaaGreatDoor
/-
  A slice of a slice, taken apart. No program in sight.
-/
namespace Go.Proofs.YtpfehnopghffjaaGreatDoor
open Go
theorem Sl.cutE {α : Type} {t : Ty α} {P : Nat → Prop} {w : World} {xs : List α} {a : Option Addr} {n cap : Nat} (h : (Sl t).rep P w (.slice a n cap) xs) (l k : Nat) (h1 : l ≤ k) (h2 : k ≤ n) :
    ∃ a' cap', cutV t.size a cap l k = .slice a' (k - l) cap' ∧ k - l ≤ cap' ∧ (Sl t).rep P w (.slice a' (k - l) cap') ((xs.take k).drop l) := by
  have hr := Sl.cut h l k h1 h2
  obtain ⟨a', cap', hv, hc⟩ := Sl.val hr
  have hn : xs.length = n := by obtain ⟨_, a0, c0, e, _⟩ := h; cases e; rfl
  have hlen : ((xs.take k).drop l).length = k - l := by simp; omega
  rw [hlen] at hv hc
  rw [hv] at hr
  exact ⟨a', cap', hv, hc, hr⟩
theorem flat_set {n : Nat} : ∀ {us : List Value} (i j : Nat) (u v' : Value), (∀ x ∈ us, x.cells.size = n) → j < n → (∀ x, us[i]? = some x → v'.cells.toList = x.cells.toList.set j u) → (flat us).set (i * n + j) u = flat (us.set i v')
  | [], i, j, u, v', _, _, _ => by simp [flat]
  | x :: us, 0, j, u, v', h, hj, hv => by
    have hx : x.cells.toList.length = n := by rw [Array.length_toList, h x (by simp)]
    rw [List.set_cons_zero, flat_cons, flat_cons, Nat.zero_mul, Nat.zero_add, List.set_append_left _ _ (by omega), hv x (by simp)]
  | x :: us, i + 1, j, u, v', h, hj, hv => by
    have hx : x.cells.toList.length = n := by rw [Array.length_toList, h x (by simp)]
    have hle : x.cells.toList.length ≤ (i + 1) * n + j := by rw [hx, Nat.add_mul]; omega
    rw [List.set_cons_succ, flat_cons, flat_cons, List.set_append_right _ _ hle, ← flat_set i j u v' (fun y hy => h y (by simp [hy])) hj (fun y hy => hv y (by simpa using hy))]
    congr 2
    rw [hx, Nat.add_mul]
    omega
/-- a slice of the call's own, nil or in a block that B allows -/
def OwnO {α : Type} (t : Ty α) (Q : Nat → Prop) (E : TypeId) (w : World) (v : Value) (xs : List α) (B : Nat → Prop) : Prop :=
  (xs = [] ∧ v = .slice none 0 0) ∨ ∃ b, B b ∧ b < w.heap.size ∧ Own t Q E w v xs b
section
variable {α : Type} {t : Ty α} {Q Q' : Nat → Prop} {E : TypeId} {w w' : World} {v : Value} {xs ys : List α} {B B' : Nat → Prop}
theorem OwnO.nil : OwnO t Q E w (.slice none 0 0) [] B := .inl ⟨rfl, rfl⟩
theorem OwnO.of {b : Nat} (h : Own t Q E w v xs b) (hb : B b) : OwnO t Q E w v xs B := by
  have h' := h
  obtain ⟨hl, ⟨rfl, rfl⟩ | ⟨cap, us, sp, rfl, hc, he, hB, hn⟩⟩ := h'
  · exact .inl ⟨rfl, rfl⟩
  · exact .inr ⟨b, hb, hB.lt, h⟩
theorem OwnO.val (h : OwnO t Q E w v xs B) : ∃ a cap, v = .slice a xs.length cap ∧ xs.length ≤ cap := by
  rcases h with ⟨rfl, rfl⟩ | ⟨b, _, _, h⟩
  · exact ⟨none, 0, rfl, Nat.le_refl _⟩
  · exact h.val
theorem OwnO.mono (h : OwnO t Q E w v xs B) (hq : ∀ k, Q k → k < w.heap.size → Q' k) (hb : ∀ k, B k → k < w.heap.size → B' k) : OwnO t Q' E w v xs B' := by
  rcases h with h | ⟨b, h1, h2, h3⟩
  · exact .inl h
  · exact .inr ⟨b, hb b h1 h2, h2, h3.mono hq⟩
theorem OwnO.ext {S : Nat → Prop} (h : OwnO t Q E w v xs B) (hx : Ext S w w') (hb : ∀ k, B k → k < w.heap.size → ¬ S k) (hq : ∀ k, Q k → k < w.heap.size → ¬ S k) : OwnO t Q E w' v xs B := by
  rcases h with h | ⟨b, h1, h2, h3⟩
  · exact .inl h
  · exact .inr ⟨b, h1, Nat.lt_of_lt_of_le h2 hx.size, h3.ext hx (hb b h1 h2) hq⟩
theorem OwnO.ext0 (h : OwnO t Q E w v xs B) (hx : Ext (fun _ => False) w w') : OwnO t Q E w' v xs B := h.ext hx (fun _ _ _ x => x) (fun _ _ _ x => x)
theorem OwnO.rep {R : Nat → Prop} (h : OwnO t Q E w v xs B) (hb : ∀ k, B k → k < w.heap.size → R k) (hq : ∀ k, Q k → k < w.heap.size → R k) : (Sl t).rep R w v xs := by
  rcases h with ⟨rfl, rfl⟩ | ⟨b, h1, h2, h3⟩
  · exact Sl.nil
  · exact h3.rep (hb b h1 h2) hq
end
theorem Ev.makeFunc {P : Program} {e : Env} {w : World} {fn : Go.Fn} {xs ys : List Operand} {us vs : List Value} (hx : xs.mapM (look e) = some us) (hy : ys.mapM (look e) = some vs) : Ev P e (.makeFunc fn xs.toArray ys.toArray) w (.func fn us.toArray vs.toArray) :=
  fun w' _ ρ hρ o ho => by
    have h1 := look_args hρ xs us hx
    have h2 := look_args hρ ys vs hy
    simp [execOp, ho, Instr.makeFunc, h1, h2]
end Go.Proofs.YtpfehnopghffjaaGreatDoor
/-
  Regions that draw, with operations that turn the world and do NOT wait for one another: one walk for each order that these may come in. No program in sight.
-/
namespace Go.Proofs.YtpfehnopghffjaaGreatDoor
open Go

section
variable {P : Program} {ops : Array Oper} {md : Region.Mode} {C : World → Prop} {act : Nat → Bool}
/-- may j come up, if the next that turns the world is to be o? -/
def okG (act : Nat → Bool) (o : Option Nat) (j : Nat) : Prop := act j = true → o = none ∨ o = some j
def nx (act : Nat → Bool) (o : Option Nat) (j : Nat) : Option Nat := if act j then none else o
theorem nx_comm (o : Option Nat) (i j : Nat) : nx act (nx act o i) j = nx act (nx act o j) i := by
  unfold nx
  cases act i <;> cases act j <;> rfl
def wpAnyG (P : Program) (md : Region.Mode) (ops : Array Oper) (C : World → Prop) (act : Nat → Bool) (Q : Act → World → Prop) : Nat → Option Nat → Array Bool → Act → World → Prop
  | 0, _, listed, a, w => Region.ready md ops listed = [] ∧ Q a w
  | fuel + 1, o, listed, a, w =>
    (Region.ready md ops listed = [] → Q a w) ∧
    ∀ i ∈ Region.ready md ops listed, okG act o i → mOp P md ops C act i (wpAnyG P md ops C act Q fuel (nx act o i) (listed.setIfInBounds i true)) a w
theorem wpAnyM_of_G {Q : Act → World → Prop} : ∀ (fuel : Nat) (listed : Array Bool) (a : Act) (w : World), wpAnyG P md ops C act Q fuel none listed a w → wpAnyM P md ops C act Q fuel listed a w
  | 0, _, _, _, h => h
  | fuel + 1, listed, a, w, h => by
    refine ⟨h.1, fun i hi => mOp_mono (fun a' w' h' => wpAnyM_of_G fuel _ _ _ ?_) (h.2 i hi (fun _ => .inl rfl))⟩
    have : nx act none i = none := by unfold nx; split <;> rfl
    rwa [this] at h'
theorem mG_first {Q : Act → World → Prop} {i : Nat} {oi : Oper} (hi : ops[i]? = some oi) (hsel : ∀ (j : Nat) (o : Oper) cs b, ops[j]? = some o → o.op ≠ .select cs b) 
    :
    ∀ (fuel : Nat) (o : Option Nat) (listed : Array Bool) (a : Act) (w : World), (act i = true → o = some i) → C w ∨ Lin md ops act listed → Closed md ops listed →
      (∀ j oj, ops[j]? = some oj → j ≠ i → listed.getD j true = false → (∀ e ∈ oj.after, Region.binds md e = true → e.on ≠ i) → oi.apart ops oj = true) →
      i ∈ Region.ready md ops listed →
      mOp P md ops C act i (wpAnyG P md ops C act Q fuel (nx act o i) (listed.setIfInBounds i true)) a w → wpAnyG P md ops C act Q (fuel + 1) o listed a w := by
  intro fuel
  induction fuel with
  | zero =>
    intro o listed a w hact hCw hcl _ hr H
    refine ⟨fun h => (by rw [h] at hr; cases hr), fun j hj hok => ?_⟩
    by_cases hji : j = i
    · subst hji; exact H
    · exfalso
      have hex : ∃ a' w', wpAnyG P md ops C act Q 0 (nx act o i) (listed.setIfInBounds i true) a' w' := by
        unfold mOp at H
        simp only [hi] at H
        split at H
        · split at H
          · obtain ⟨v, w', _, h⟩ := H.some; exact ⟨_, _, h⟩
          · obtain ⟨v, _, h⟩ := H; exact ⟨_, _, h⟩
        · exact ⟨_, _, H⟩
      obtain ⟨a', w', h⟩ := hex
      have := ready_mono hj hji
      rw [h.1] at this
      cases this
  | succ fuel ih =>
    intro o listed a w hact hCw hcl hfree hr H
    refine ⟨fun h => (by rw [h] at hr; cases hr), fun j hj hok => ?_⟩
    by_cases hji : j = i
    · subst hji; exact H
    · have hor : C w ∨ freeB ops act j = true ∨ freeB ops act i = true := hCw.imp id (lin_two hcl hr hj hji)
      have hnfj : finB md ops act j = true → freeB ops act i = true := fin_two hcl hj hr (Ne.symm hji)
      have hij : act i = true → act j = false := fun hai => by
        cases haj : act j with
        | false => rfl
        | true =>
          exfalso
          rcases hok haj with h | h <;> rw [hact hai] at h
          · cases h
          · exact hji (Option.some.inj h).symm
      have hact' : act i = true → nx act o j = some i := fun hai => by
        unfold nx
        rw [hij hai]
        exact hact hai
      have hok' : okG act (nx act o i) j := fun haj => by
        have : act i = false := by
          cases hai : act i with
          | false => rfl
          | true => have := hij hai; rw [haj] at this; cases this
        unfold nx
        rw [this]
        exact hok haj
      obtain ⟨hjun, oj, hoj, hall⟩ := mem_ready.1 hj
      have hiun : listed.getD i false = false := by
        have h0 := (mem_ready.1 hr).1
        rcases Nat.lt_or_ge i listed.size with h' | h'
        · simp [h'] at h0 ⊢; exact h0
        · simp [Array.getElem?_eq_none h'] at h0
      have hnot : ∀ e ∈ oj.after, Region.binds md e = true → e.on ≠ i := fun e he hb heq => by
        have h1 := hall e he hb
        rw [heq, hiun] at h1; cases h1
      have hap := hfree j oj hoj hji hjun hnot
      obtain ⟨h1, h2, h3⟩ := Oper.apart_spec hap
      have hsi := fun cs b => hsel i oi cs b hi
      have hsj := fun cs b => hsel j oj cs b hoj
      have hready' := ready_mono hr (Ne.symm hji)
      have hcl' := hcl.set hj
      have hfree' : ∀ k ok, ops[k]? = some ok → k ≠ i → (listed.setIfInBounds j true).getD k true = false →
          (∀ e ∈ ok.after, Region.binds md e = true → e.on ≠ i) → oi.apart ops ok = true := fun k ok hk hki hun hno => by
        refine hfree k ok hk hki ?_ hno
        by_cases hjk : j = k
        · subst hjk; exact hjun
        · rw [getD_set_ne true hjk] at hun; exact hun
      have hjr := ready_mono hj hji
      have hcomm : (listed.setIfInBounds j true).setIfInBounds i true = (listed.setIfInBounds i true).setIfInBounds j true := Array.setIfInBounds_comm _ _ hji
      -- i, taken behind j
      have behind : ∀ (u : Value) (w' : World), C w' ∨ Lin md ops act (listed.setIfInBounds j true) → (mOp P md ops C act i (fun a' w'' => wpAnyG P md ops C act Q fuel (nx act (nx act o i) j) ((listed.setIfInBounds i true).setIfInBounds j true) a' w'') (a.put oj.dst u) w') →
          wpAnyG P md ops C act Q (fuel + 1) (nx act o j) (listed.setIfInBounds j true) (a.put oj.dst u) w' := fun u w' hC' hm => by
        refine ih _ _ _ _ hact' hC' hcl' hfree' hready' ?_
        rw [hcomm, ← nx_comm]
        exact hm
      have wi : ∀ u, Region.wanted oi (yielded ops (a.put oj.dst u).tmps) = Region.wanted oi (yielded ops a.tmps) := fun u => wanted_put oi a oj.dst u h3
      have ei : ∀ u, execOp (a.put oj.dst u).eval oi = execOp a.eval oi := fun u => execOp_put oi hsi a oj.dst u h3
      have wj : ∀ v, Region.wanted oj (yielded ops (a.put oi.dst v).tmps) = Region.wanted oj (yielded ops a.tmps) := fun v => wanted_put oj a oi.dst v h1
      have ej : ∀ v, execOp (a.put oi.dst v).eval oj = execOp a.eval oj := fun v => execOp_put oj hsj a oi.dst v h1
      have pc : ∀ v u, (a.put oi.dst v).put oj.dst u = (a.put oj.dst u).put oi.dst v := fun v u => Act.put_comm a v u h2
      unfold mOp at H
      simp only [hi] at H
      by_cases hwi : Region.wanted oi (yielded ops a.tmps) = true
      · simp only [hwi, if_true] at H
        by_cases hai : act i = true
        · -- i turns the world: j only looks
          simp only [hai, if_true] at H
          have hnf : finB md ops act i = true → freeB ops act j = true := fin_two hcl hr hj hji
          have hor : C w ∨ freeB ops act j = true := hor.imp id (fun h => h.resolve_right (fun h => freeB_act h hai))
          have haj : act j = false := hij hai
          unfold mOp
          simp only [hoj]
          have H' : does P oi a w (fun v w1 => (C w1 ∨ finB md ops act i = true) ∧ mOp P md ops C act j (wpAnyG P md ops C act Q fuel (nx act (nx act o i) j) ((listed.setIfInBounds i true).setIfInBounds j true)) (a.put oi.dst v) w1) :=
            H.mono fun v w1 ⟨hc, hk⟩ => ⟨hc, hk.2 j hjr hok'⟩
          by_cases hwj : Region.wanted oj (yielded ops a.tmps) = true
          · simp only [hwj, if_true, haj, Bool.false_eq_true, if_false]
            obtain ⟨v0, w0, hc0, hk0⟩ := H'.some
            unfold mOp at hk0
            simp only [hoj, wj, hwj, if_true, haj, Bool.false_eq_true, if_false, ej] at hk0
            obtain ⟨u, hu, _⟩ := hk0
            have hall : ∀ w2, C w2 ∨ w2 = w → (execOp a.eval oj).run P w2 = .ok (.value u) w2 := fun w2 h => by
              rcases hor with hCw | hf
              · rcases hc0.imp id hnf with hc0 | hf
                · exact hu w2 (.inl (h.elim id (fun e => e ▸ hCw)))
                · exact freeB_run hf hoj (hu w0 (.inr rfl)) w2
              · exact freeB_run hf hoj (hu w0 (.inr rfl)) w2
            refine ⟨u, hall, behind u w (hCw.imp id Lin.set) ?_⟩
            unfold mOp
            simp only [hi, wi, hwi, if_true, hai]
            have : does P oi a w (fun v w1 => (C w1 ∨ finB md ops act i = true) ∧ wpAnyG P md ops C act Q fuel (nx act (nx act o i) j) ((listed.setIfInBounds i true).setIfInBounds j true) ((a.put oj.dst u).put oi.dst v) w1) := by
              refine H'.mono fun v w1 ⟨hc, hk⟩ => ⟨hc, ?_⟩
              unfold mOp at hk
              simp only [hoj, wj, hwj, if_true, haj, Bool.false_eq_true, if_false, ej] at hk
              obtain ⟨u', hu', hk'⟩ := hk
              have e1 : (execOp a.eval oj).run P w1 = .ok (.value u) w1 := by
                rcases hc.imp id hnf with hc | hf
                · exact hall w1 (.inl hc)
                · exact freeB_run hf hoj (hu w0 (.inr rfl)) w1
              have e := e1.symm.trans (hu' w1 (.inr rfl))
              simp only [Result.ok.injEq, Next.value.injEq, and_true] at e
              subst e
              rw [← pc]
              exact hk'
            unfold does at this ⊢
            rw [ei]
            exact this
          · simp only [hwj, if_false]
            refine behind undef w (hCw.imp id Lin.set) ?_
            unfold mOp
            simp only [hi, wi, hwi, if_true, hai]
            have : does P oi a w (fun v w1 => (C w1 ∨ finB md ops act i = true) ∧ wpAnyG P md ops C act Q fuel (nx act (nx act o i) j) ((listed.setIfInBounds i true).setIfInBounds j true) ((a.put oj.dst undef).put oi.dst v) w1) := by
              refine H'.mono fun v w1 ⟨hc, hk⟩ => ⟨hc, ?_⟩
              unfold mOp at hk
              simp only [hoj, wj, hwj, if_false] at hk
              rw [← pc]
              exact hk
            unfold does at this ⊢
            rw [ei]
            exact this
        · -- i only looks
          simp only [hai, if_false] at H
          obtain ⟨v, hv, hk⟩ := H
          have hk2 := hk.2 j hjr hok'
          have mi : ∀ (u : Value) (w' : World), C w' ∨ freeB ops act i = true ∨ w' = w → wpAnyG P md ops C act Q fuel (nx act (nx act o i) j) ((listed.setIfInBounds i true).setIfInBounds j true) ((a.put oi.dst v).put oj.dst u) w' →
              mOp P md ops C act i (fun a' w'' => wpAnyG P md ops C act Q fuel (nx act (nx act o i) j) ((listed.setIfInBounds i true).setIfInBounds j true) a' w'') (a.put oj.dst u) w' := fun u w' hC' h => by
            unfold mOp
            simp only [hi, wi, hwi, if_true, hai, if_false, ei]
            refine ⟨v, fun w2 h => ?_, ?_⟩
            · rcases h with h | rfl
              · exact hv w2 (.inl h)
              · rcases hC' with h | h | rfl
                · exact hv w2 (.inl h)
                · exact freeB_run h hi (hv w (.inr rfl)) w2
                · exact hv w2 (.inr rfl)
            rw [← pc]
            exact h
          unfold mOp at hk2 ⊢
          simp only [hoj, wj] at hk2 ⊢
          by_cases hwj : Region.wanted oj (yielded ops a.tmps) = true
          · simp only [hwj, if_true] at hk2 ⊢
            by_cases haj : act j = true
            · simp only [haj, if_true] at hk2 ⊢
              have : does P oj a w (fun u w1 => (C w1 ∨ finB md ops act j = true) ∧ wpAnyG P md ops C act Q fuel (nx act (nx act o i) j) ((listed.setIfInBounds i true).setIfInBounds j true) ((a.put oi.dst v).put oj.dst u) w1) := by
                unfold does at hk2 ⊢
                rw [ej] at hk2
                exact hk2
              exact this.mono fun u w1 ⟨hc, h⟩ => ⟨hc, behind u w1 (hc.imp id (fin_lin hcl hj)) (mi u w1 (hc.imp id (fun h => .inl (hnfj h))) h)⟩
            · simp only [haj, if_false, ej] at hk2 ⊢
              obtain ⟨u, hu, h⟩ := hk2
              exact ⟨u, hu, behind u w (hCw.imp id Lin.set) (mi u w (.inr (.inr rfl)) h)⟩
          · simp only [hwj, if_false] at hk2 ⊢
            exact behind undef w (hCw.imp id Lin.set) (mi undef w (.inr (.inr rfl)) hk2)
      · -- i is passed over
        simp only [hwi, if_false] at H
        have hk2 := H.2 j hjr hok'
        have mi : ∀ (u : Value) (w' : World), wpAnyG P md ops C act Q fuel (nx act (nx act o i) j) ((listed.setIfInBounds i true).setIfInBounds j true) ((a.put oi.dst undef).put oj.dst u) w' →
            mOp P md ops C act i (fun a' w'' => wpAnyG P md ops C act Q fuel (nx act (nx act o i) j) ((listed.setIfInBounds i true).setIfInBounds j true) a' w'') (a.put oj.dst u) w' := fun u w' h => by
          unfold mOp
          simp only [hi, wi, hwi, if_false]
          rw [← pc]
          exact h
        unfold mOp at hk2 ⊢
        simp only [hoj, wj] at hk2 ⊢
        by_cases hwj : Region.wanted oj (yielded ops a.tmps) = true
        · simp only [hwj, if_true] at hk2 ⊢
          by_cases haj : act j = true
          · simp only [haj, if_true] at hk2 ⊢
            have : does P oj a w (fun u w1 => (C w1 ∨ finB md ops act j = true) ∧ wpAnyG P md ops C act Q fuel (nx act (nx act o i) j) ((listed.setIfInBounds i true).setIfInBounds j true) ((a.put oi.dst undef).put oj.dst u) w1) := by
              unfold does at hk2 ⊢
              rw [ej] at hk2
              exact hk2
            exact this.mono fun u w1 ⟨hc, h⟩ => ⟨hc, behind u w1 (hc.imp id (fin_lin hcl hj)) (mi u w1 h)⟩
          · simp only [haj, if_false, ej] at hk2 ⊢
            obtain ⟨u, hu, h⟩ := hk2
            exact ⟨u, hu, behind u w (hCw.imp id Lin.set) (mi u w h)⟩
        · simp only [hwj, if_false] at hk2 ⊢
          exact behind undef w (hCw.imp id Lin.set) (mi undef w hk2)


/-- an order, branching where several may come first that turn the world -/
inductive Tr where
  | nil
  | op (i : Nat) (t : Tr)
  | alt (i : Nat) (s t : Tr)
  | stop
def coversB (md : Region.Mode) (ops : Array Oper) (act : Nat → Bool) (M : List Nat) (listed : Array Bool) : Bool :=
  (List.range ops.size).all fun j => !act j || listed.getD j false || M.contains j || M.any fun i => waitsB md ops ops.size j i
def Tr.okB (md : Region.Mode) (ops : Array Oper) (act : Nat → Bool) : Tr → Nat → Option Nat → List Nat → Array Bool → Bool
  | .nil, _, _, M, listed => M.isEmpty && (Region.ready md ops listed).isEmpty
  | .op i t, fuel, o, M, listed => M.isEmpty && (match fuel with
    | 0 => false
    | f + 1 => (Region.ready md ops listed).contains i && Region.free md ops listed i && (!act i || o == some i) && Tr.okB md ops act t f (nx act o i) [] (listed.setIfInBounds i true))
  | .alt i s t, fuel, o, M, listed => o.isNone && act i && !listed.getD i true && Tr.okB md ops act s fuel (some i) [] listed && Tr.okB md ops act t fuel none (i :: M) listed
  | .stop, _, o, M, listed => o.isNone && !M.isEmpty && coversB md ops act M listed
def wpTr (P : Program) (md : Region.Mode) (ops : Array Oper) (C : World → Prop) (act : Nat → Bool) (Q : Act → World → Prop) : Tr → Act → World → Prop
  | .nil, a, w => Q a w
  | .op i t, a, w => mOp P md ops C act i (wpTr P md ops C act Q t) a w
  | .alt _ s t, a, w => wpTr P md ops C act Q s a w ∧ wpTr P md ops C act Q t a w
  | .stop, _, _ => True
theorem G_ready_nil {Q : Act → World → Prop} {listed : Array Bool} {a : Act} {w : World} (hr : Region.ready md ops listed = []) (h : Q a w) : ∀ (fuel : Nat) (o : Option Nat), wpAnyG P md ops C act Q fuel o listed a w
  | 0, _ => ⟨hr, h⟩
  | _ + 1, _ => ⟨fun _ => h, fun i hi => by rw [hr] at hi; cases hi⟩
theorem G_ready_Q {Q : Act → World → Prop} {listed : Array Bool} {a : Act} {w : World} (hr : Region.ready md ops listed = []) : ∀ (fuel : Nat) (o : Option Nat), wpAnyG P md ops C act Q fuel o listed a w → Q a w
  | 0, _, h => h.2
  | _ + 1, _, h => h.1 hr
/-- whoever comes first -/
theorem G_split {Q : Act → World → Prop} {M : List Nat} (hne : M ≠ []) (hA : ∀ i ∈ M, act i = true) : ∀ (fuel : Nat) (listed : Array Bool) (a : Act) (w : World), Closed md ops listed → (∀ i ∈ M, listed.getD i true = false) →
    (∀ j, j < ops.size → act j = true → listed.getD j false = true ∨ j ∈ M ∨ ∃ i ∈ M, waitsB md ops ops.size j i = true) →
    (∀ i ∈ M, wpAnyG P md ops C act Q fuel (some i) listed a w) → wpAnyG P md ops C act Q fuel none listed a w
  | 0, listed, a, w, _, _, _, h => by
    obtain ⟨i, hi⟩ := List.exists_mem_of_ne_nil _ hne
    exact h i hi
  | fuel + 1, listed, a, w, hcl, hun, hcov, h => by
    obtain ⟨i0, hi0⟩ := List.exists_mem_of_ne_nil _ hne
    refine ⟨(h i0 hi0).1, fun j hj _ => ?_⟩
    obtain ⟨hjun, oj, hoj, hall⟩ := mem_ready.1 hj
    have hjlt : j < ops.size := (Array.getElem?_eq_some_iff.1 hoj).1
    have hjf : listed.getD j false = false := by
      have := hcl.1
      simp [show j < listed.size by omega] at hjun ⊢
      exact hjun
    have e0 : nx act none j = none := by unfold nx; split <;> rfl
    rw [e0]
    cases haj : act j with
    | true =>
      have hjM : j ∈ M := by
        rcases hcov j hjlt haj with h1 | h1 | ⟨i, hi, h1⟩
        · rw [hjf] at h1; cases h1
        · exact h1
        · exfalso
          have hif : listed.getD i false = false := by
            have := hun i hi
            rcases Nat.lt_or_ge i listed.size with h' | h'
            · simp [h'] at this ⊢; exact this
            · simp [Array.getElem?_eq_none h'] at this
          exact (waits_unlisted hcl hif _ _ h1).2 hj
      have := (h j hjM).2 j hj (fun _ => .inr rfl)
      rwa [show nx act (some j) j = none by unfold nx; rw [haj]; rfl] at this
    | false =>
      have hall' : ∀ i ∈ M, mOp P md ops C act j (wpAnyG P md ops C act Q fuel (some i) (listed.setIfInBounds j true)) a w := fun i hi => by
        have := (h i hi).2 j hj (fun h => by rw [haj] at h; cases h)
        rwa [show nx act (some i) j = some i by unfold nx; rw [haj]; rfl] at this
      have hun' : ∀ i ∈ M, (listed.setIfInBounds j true).getD i true = false := fun i hi => by
        have hij : j ≠ i := fun e => by have := hA i hi; rw [← e, haj] at this; cases this
        rw [getD_set_ne true hij]
        exact hun i hi
      have hcov' : ∀ k, k < ops.size → act k = true → (listed.setIfInBounds j true).getD k false = true ∨ k ∈ M ∨ ∃ i ∈ M, waitsB md ops ops.size k i = true := fun k hk hak => by
        rcases hcov k hk hak with h1 | h1
        · exact .inl (getD_set_true h1)
        · exact .inr h1
      have h0 := hall' i0 hi0
      unfold mOp at h0 ⊢
      simp only [hoj] at h0 ⊢
      split
      · rename_i hwant
        simp only [hwant, if_true, haj, Bool.false_eq_true, if_false] at h0 ⊢
        obtain ⟨v, hv, hk0⟩ := h0
        refine ⟨v, hv, G_split hne hA fuel _ _ _ (hcl.set hj) hun' hcov' (fun i hi => ?_)⟩
        have h1 := hall' i hi
        unfold mOp at h1
        simp only [hoj, hwant, if_true, haj, Bool.false_eq_true, if_false] at h1
        obtain ⟨v', hv', hk'⟩ := h1
        have e := (hv w (.inr rfl)).symm.trans (hv' w (.inr rfl))
        simp only [Result.ok.injEq, Next.value.injEq, and_true] at e
        subst e
        exact hk'
      · rename_i hwant
        refine G_split hne hA fuel _ _ _ (hcl.set hj) hun' hcov' (fun i hi => ?_)
        have h1 := hall' i hi
        unfold mOp at h1
        simp only [hoj, hwant, if_false] at h1
        exact h1
theorem tr_sound {Q : Act → World → Prop} (hs : Region.noSelect ops = true) : ∀ (t : Tr) (fuel : Nat) (o : Option Nat) (M : List Nat) (listed : Array Bool) (a : Act) (w : World), C w ∨ Lin md ops act listed → Closed md ops listed → t.okB md ops act fuel o M listed = true →
    (∀ i ∈ M, act i = true ∧ listed.getD i true = false ∧ wpAnyG P md ops C act Q fuel (some i) listed a w) → wpTr P md ops C act Q t a w → wpAnyG P md ops C act Q fuel o listed a w
  | .nil, fuel, o, M, listed, a, w, hw, hcl, hB, hM, h => by
    simp only [Tr.okB, Bool.and_eq_true, List.isEmpty_iff] at hB
    exact G_ready_nil hB.2 h fuel o
  | .stop, fuel, o, M, listed, a, w, hw, hcl, hB, hM, h => by
    simp only [Tr.okB, Bool.and_eq_true, Bool.not_eq_true', Option.isNone_iff_eq_none] at hB
    obtain ⟨⟨rfl, hne⟩, hc⟩ := hB
    refine G_split (M := M) (fun e => by rw [e] at hne; cases hne) (fun i hi => (hM i hi).1) fuel listed a w hcl (fun i hi => (hM i hi).2.1) (fun j hj haj => ?_) (fun i hi => (hM i hi).2.2)
    unfold coversB at hc
    have := List.all_eq_true.1 hc j (List.mem_range.2 hj)
    simp only [haj, Bool.not_true, Bool.false_or, Bool.or_eq_true, List.contains_iff_mem, List.any_eq_true] at this
    rcases this with (h1 | h1) | h1
    · exact .inl h1
    · exact .inr (.inl h1)
    · exact .inr (.inr h1)
  | .alt i s t, fuel, o, M, listed, a, w, hw, hcl, hB, hM, h => by
    simp only [Tr.okB, Bool.and_eq_true, Bool.not_eq_true', Option.isNone_iff_eq_none] at hB
    obtain ⟨⟨⟨⟨rfl, hi⟩, hl⟩, hs'⟩, ht⟩ := hB
    have h1 := tr_sound hs s fuel (some i) [] listed a w hw hcl hs' (fun _ h => by cases h) h.1
    refine tr_sound hs t fuel none (i :: M) listed a w hw hcl ht (fun j hj => ?_) h.2
    rcases List.mem_cons.1 hj with rfl | hj
    · exact ⟨hi, hl, h1⟩
    · exact hM j hj
  | .op i t, fuel, o, M, listed, a, w, hw, hcl, hB, hM, h => by
    simp only [Tr.okB, Bool.and_eq_true] at hB
    obtain ⟨_, hB⟩ := hB
    cases fuel with
    | zero => cases hB
    | succ f =>
      simp only [Bool.and_eq_true, Bool.or_eq_true, Bool.not_eq_true', beq_iff_eq] at hB
      obtain ⟨⟨⟨hr, hf⟩, hact⟩, hB'⟩ := hB
      have hr' : i ∈ Region.ready md ops listed := by simpa using hr
      obtain ⟨_, oi, hoi, _⟩ := mem_ready.1 hr'
      refine mG_first hoi (Region.noSelect_spec hs) f o listed a w (fun ha => ?_) hw hcl (Region.free_spec hoi hf) hr' ?_
      · rcases hact with h1 | h1
        · rw [ha] at h1; cases h1
        · exact h1
      · have go : ∀ a' w', (C w' ∨ Lin md ops act (listed.setIfInBounds i true)) → wpTr P md ops C act Q t a' w' → wpAnyG P md ops C act Q f (nx act o i) (listed.setIfInBounds i true) a' w' := fun a' w' hw' h' =>
          tr_sound hs t f (nx act o i) [] _ a' w' hw' (hcl.set hr') hB' (fun _ h => by cases h) h'
        simp only [wpTr] at h
        unfold mOp at h ⊢
        simp only [hoi] at h ⊢
        split
        · rename_i hwant
          simp only [hwant, if_true] at h
          split
          · rename_i ha
            simp only [ha, if_true] at h
            exact h.mono fun v w' ⟨h1, h2⟩ => ⟨h1, go _ _ (h1.imp id (fin_lin hcl hr')) h2⟩
          · rename_i ha
            simp only [ha] at h
            obtain ⟨v, h1, h2⟩ := h
            exact ⟨v, h1, go _ _ (hw.imp id Lin.set) h2⟩
        · rename_i hwant
          simp only [hwant] at h
          exact go _ _ (hw.imp id Lin.set) h
theorem wp_region_tr {id : Nat} {Q : Exit → Act → World → Prop} {a : Act} {w : World} (act : Nat → Bool) (t : Tr) (hm : P.follows .mixedOrders = true) (hs : Region.noSelect ops = true) (hB : t.okB .any ops act ops.size none [] (Array.replicate ops.size false) = true)
    (hC : C { w with drawn := w.drawn + 1 }) (h : wpTr P .any ops C act (fun a' w' => Q .normal a' w') t a { w with drawn := w.drawn + 1 }) : (Code.region id ops true).wp P Q a w :=
  wp_region_any hm (wpAny_of_M (C := C) (act := act) (Q := fun a' w' => Q .normal a' w') (fun _ _ h => h) _ _ _ _
    (wpAnyM_of_G _ _ _ _ (tr_sound hs t ops.size none [] _ a _ (.inl hC) ⟨by simp, fun j oj hj hl => by rw [getD_replicate_false] at hl; cases hl⟩ hB (fun _ h => by cases h) h)))
end

/-! the judgement -/
def NB (F : Fr) (S : Nat → Prop) (w0 : World) (al : List Nat) (e : Env) (all : List Oper) (t : Tr) (k : List It) (w : World) : Prop :=
  ∀ w', Same w w' → ∀ a, Ag F.z e a → wpTr F.P .any all.toArray (Ext S w0) (fun j => al.contains j) (fun a' w2 => post F k .normal a' w2) t a w'
/-- in the class; NB: behind an operation that left it -/
def N (F : Fr) (S : Nat → Prop) (w0 : World) (al : List Nat) (e : Env) (all : List Oper) (t : Tr) (k : List It) (w : World) : Prop :=
  Ext S w0 w → NB F S w0 al e all t k w
section
variable {F : Fr} {S : Nat → Prop} {w0 : World} {al : List Nat} {e : Env} {k : List It} {w : World} {all : List Oper} {i d : Nat} {op : Op} {ty : TypeId} {pos : String} {af : Array Edge} {g : Option (Nat × Bool)} {t t' : Tr}
theorem G.tree {id : Nat} {l : List Oper} (S : Nat → Prop) (al : List Nat) (t : Tr) (hm : F.P.follows .mixedOrders = true) (hs : Region.noSelect l.toArray = true) (hB : t.okB .any l.toArray (fun j => al.contains j) l.length none [] (Array.replicate l.length false) = true)
    (h : N F S w al e l t k w) : G F e (.region id l.toArray true) k w :=
  fun w' hw a ha => wp_region_tr (C := Ext S w) (fun j => al.contains j) t hm hs (by simpa using hB) (.same (hw.trans (same_draw w'))) (by simpa using h (.refl _) _ (hw.trans (same_draw w')) a ha)
theorem NB.nil (h : A F e k w) : NB F S w0 al e all .nil k w := fun w' hw a ha => h w' hw a ha
theorem NB.stop : NB F S w0 al e all .stop k w := fun _ _ _ _ => trivial
theorem NB.alt (h : NB F S w0 al e all t' k w) (h' : NB F S w0 al e all t k w) : NB F S w0 al e all (.alt i t' t) k w := fun w' hw a ha => ⟨h w' hw a ha, h' w' hw a ha⟩
theorem NB.p {v : Value} (ho : all[i]? = some ⟨some d, op, ty, pos, af, g⟩) (hi : al.contains i = false) (hd : Nat.blt d F.n = true) (hg : gd e all g = some true) (h : ∀ w', Ext S w0 w' ∨ w' = w → Ev F.P e op w' v) (next : NB F S w0 al ((d, v) :: e) all t k w) :
    NB F S w0 al e all (.op i t) k w := by
  intro w' hw a ha
  unfold wpTr mOp
  rw [show all.toArray[i]? = _ by simpa using ho]
  simp only [hi]
  rw [if_pos (gd_wanted ha hg), if_neg (by simp)]
  refine ⟨v, fun w2 hw2 => ?_, next w' hw _ (ha.put hd v)⟩
  rcases hw2 with hw2 | rfl
  · exact h w2 (.inl hw2) w2 (.refl w2) a.eval (fun x u hx => ha.ev hx) _ rfl
  · exact h w (.inr rfl) w2 (.same hw) a.eval (fun x u hx => ha.ev hx) _ rfl
theorem NB.skip (ho : all[i]? = some ⟨some d, op, ty, pos, af, g⟩) (hd : Nat.blt d F.n = true) (hg : gd e all g = some false) (next : NB F S w0 al ((d, undef) :: e) all t k w) : NB F S w0 al e all (.op i t) k w := by
  intro w' hw a ha
  unfold wpTr mOp
  rw [show all.toArray[i]? = _ by simpa using ho]
  simp only
  rw [if_neg (by rw [gd_wanted ha hg]; simp)]
  exact next w' hw _ (ha.put hd undef)
theorem NB.v0 {Post : Value → World → Prop} (ho : all[i]? = some ⟨some d, op, ty, pos, af, g⟩) (hi : al.contains i = true) (hd : Nat.blt d F.n = true) (hg : gd e all g = some true) (h : DoV F.P e op w Post) (hC : ∀ v w2, Post v w2 → Ext S w0 w2 ∨ finB .any all.toArray (fun j => al.contains j) i = true)
    (next : ∀ v w2, Post v w2 → NB F S w0 al ((d, v) :: e) all t k w2) : NB F S w0 al e all (.op i t) k w := by
  intro w' hw a ha
  unfold wpTr mOp
  rw [show all.toArray[i]? = _ by simpa using ho]
  simp only [hi]
  rw [if_pos (gd_wanted ha hg), if_pos trivial]
  obtain ⟨v, w2, w3, hr, hs, hp⟩ := h w' hw a.eval (fun x u hx => ha.ev hx) ⟨some d, op, ty, pos, af, g⟩ rfl
  unfold does
  rw [hr]
  exact ⟨(hC v w2 hp).imp (fun h => h.trans (.same hs)) id, next v w2 hp w3 hs _ (ha.put hd v)⟩
theorem NB.s0 {Post : World → Prop} (ho : all[i]? = some ⟨none, op, ty, pos, af, g⟩) (hi : al.contains i = true) (hg : gd e all g = some true) (h : DoS F.P e op w Post) (hC : ∀ w2, Post w2 → Ext S w0 w2 ∨ finB .any all.toArray (fun j => al.contains j) i = true)
    (next : ∀ w2, Post w2 → NB F S w0 al e all t k w2) : NB F S w0 al e all (.op i t) k w := by
  intro w' hw a ha
  unfold wpTr mOp
  rw [show all.toArray[i]? = _ by simpa using ho]
  simp only [hi]
  rw [if_pos (gd_wanted ha hg), if_pos trivial]
  obtain ⟨w2, w3, hr, hs, hp⟩ := h w' hw a.eval (fun x u hx => ha.ev hx) ⟨none, op, ty, pos, af, g⟩ rfl
  unfold does
  rw [hr]
  exact ⟨(hC w2 hp).imp (fun h => h.trans (.same hs)) id, next w2 hp w3 hs _ (ha.put0 undef)⟩
theorem NB.vL {Post : Value → World → Prop} (ho : all[i]? = some ⟨some d, op, ty, pos, af, g⟩) (hi : al.contains i = true) (hd : Nat.blt d F.n = true) (hg : gd e all g = some true) (h : DoV F.P e op w Post) (hf : finB .any all.toArray (fun j => al.contains j) i = true)
    (next : ∀ v w2, Post v w2 → NB F S w0 al ((d, v) :: e) all t k w2) : NB F S w0 al e all (.op i t) k w := .v0 ho hi hd hg h (fun _ _ _ => .inr hf) next
theorem NB.sL {Post : World → Prop} (ho : all[i]? = some ⟨none, op, ty, pos, af, g⟩) (hi : al.contains i = true) (hg : gd e all g = some true) (h : DoS F.P e op w Post) (hf : finB .any all.toArray (fun j => al.contains j) i = true)
    (next : ∀ w2, Post w2 → NB F S w0 al e all t k w2) : NB F S w0 al e all (.op i t) k w := .s0 ho hi hg h (fun _ _ => .inr hf) next
theorem N.nil (h : A F e k w) : N F S w0 al e all .nil k w := fun _ => .nil h
theorem N.stop : N F S w0 al e all .stop k w := fun _ => .stop
theorem N.alt (h : N F S w0 al e all t' k w) (h' : N F S w0 al e all t k w) : N F S w0 al e all (.alt i t' t) k w := fun hX => .alt (h hX) (h' hX)
theorem N.p {v : Value} (ho : all[i]? = some ⟨some d, op, ty, pos, af, g⟩) (hi : al.contains i = false) (hd : Nat.blt d F.n = true) (hg : gd e all g = some true) (h : ∀ w', Ext S w0 w' → Ev F.P e op w' v) (next : N F S w0 al ((d, v) :: e) all t k w) :
    N F S w0 al e all (.op i t) k w := fun hX => .p ho hi hd hg (fun w' hw' => h w' (hw'.elim id (fun e => e ▸ hX))) (next hX)
theorem N.skip (ho : all[i]? = some ⟨some d, op, ty, pos, af, g⟩) (hd : Nat.blt d F.n = true) (hg : gd e all g = some false) (next : N F S w0 al ((d, undef) :: e) all t k w) : N F S w0 al e all (.op i t) k w := fun hX => .skip ho hd hg (next hX)
theorem N.v {Post : Value → World → Prop} (ho : all[i]? = some ⟨some d, op, ty, pos, af, g⟩) (hi : al.contains i = true) (hd : Nat.blt d F.n = true) (hg : gd e all g = some true) (h : DoV F.P e op w Post) (hC : ∀ v w2, Post v w2 → Ext S w0 w2)
    (next : ∀ v w2, Post v w2 → N F S w0 al ((d, v) :: e) all t k w2) : N F S w0 al e all (.op i t) k w := fun hX => .v0 ho hi hd hg h (fun v w2 hp => .inl (hC v w2 hp)) (fun v w2 hp => next v w2 hp (hC v w2 hp))
theorem N.s {Post : World → Prop} (ho : all[i]? = some ⟨none, op, ty, pos, af, g⟩) (hi : al.contains i = true) (hg : gd e all g = some true) (h : DoS F.P e op w Post) (hC : ∀ w2, Post w2 → Ext S w0 w2)
    (next : ∀ w2, Post w2 → N F S w0 al e all t k w2) : N F S w0 al e all (.op i t) k w := fun hX => .s0 ho hi hg h (fun w2 hp => .inl (hC w2 hp)) (fun w2 hp => next w2 hp (hC w2 hp))
theorem N.vL {Post : Value → World → Prop} (ho : all[i]? = some ⟨some d, op, ty, pos, af, g⟩) (hi : al.contains i = true) (hd : Nat.blt d F.n = true) (hg : gd e all g = some true) (h : DoV F.P e op w Post) (hf : finB .any all.toArray (fun j => al.contains j) i = true)
    (next : ∀ v w2, Post v w2 → NB F S w0 al ((d, v) :: e) all t k w2) : N F S w0 al e all (.op i t) k w := fun _ => .vL ho hi hd hg h hf next
theorem N.sL {Post : World → Prop} (ho : all[i]? = some ⟨none, op, ty, pos, af, g⟩) (hi : al.contains i = true) (hg : gd e all g = some true) (h : DoS F.P e op w Post) (hf : finB .any all.toArray (fun j => al.contains j) i = true)
    (next : ∀ w2, Post w2 → NB F S w0 al e all t k w2) : N F S w0 al e all (.op i t) k w := fun _ => .sL ho hi hg h hf next
theorem N.call {c : Operand} {f : FuncId} {xs : List Operand} {ats : Array TypeId} {vs first captured : List Value} {Post : Value → World → Prop} (ho : all[i]? = some ⟨some d, .call { callee := .value c, args := xs.toArray, argTypes := ats }, ty, pos, af, g⟩) (hi : al.contains i = true) (hd : Nat.blt d F.n = true) (hg : gd e all g = some true)
    (hf : look e c = some (.func (.func f) first.toArray captured.toArray)) (hx : xs.mapM (look e) = some vs) (hc : Fn F.P f (first ++ vs ++ captured) w Post) (hC : ∀ r w2, Post r w2 → Ext S w0 w2) (next : ∀ r w2, Post r w2 → N F S w0 al ((d, r) :: e) all t k w2) :
    N F S w0 al e all (.op i t) k w := by
  intro hX w' hw a ha
  unfold wpTr mOp
  rw [show all.toArray[i]? = _ by simpa using ho]
  simp only [hi]
  rw [if_pos (gd_wanted ha hg), if_pos trivial]
  unfold does
  rw [run_call_value rfl (ha.ev hf), look_args (fun x u hx => ha.ev hx) xs vs hx, hc.1 w']
  refine (hc.2 w' hw).mono fun en w3 ⟨r, w2, hs, he, hp⟩ => ?_
  subst he
  exact ⟨.inl ((hC r w2 hp).trans (.same hs)), next r w2 hp (hC r w2 hp) w3 hs _ (ha.put hd r)⟩
theorem N.case (n : Nat) {b : Bool} (h : e.get n = some (.bool b)) (h1 : b = true → N F S w0 al ((n, .bool true) :: e) all t k w) (h2 : b = false → N F S w0 al ((n, .bool false) :: e) all t k w) : N F S w0 al e all t k w := by
  have hkeep : ∀ {m : Sz} {a : Act}, Ag m e a → Ag m ((n, .bool b) :: e) a := fun ha => ⟨ha.1, ha.2.1, fun t' v' h' => by
    simp only [Env.get, cond_eq_ite, Nat.beq_eq] at h'
    by_cases ht : n = t'
    · subst ht; simp at h'; subst h'; exact ha.2.2 _ _ h
    · rw [if_neg ht] at h'; exact ha.2.2 _ _ h'⟩
  intro hX w' hw a ha
  cases b
  · exact h2 rfl hX w' hw a (hkeep ha)
  · exact h1 rfl hX w' hw a (hkeep ha)
theorem N.caseD (n : Nat) {p : Prop} [Decidable p] (h : e.get n = some (.bool (decide p))) (h1 : p → N F S w0 al ((n, .bool true) :: e) all t k w) (h2 : ¬ p → N F S w0 al ((n, .bool false) :: e) all t k w) : N F S w0 al e all t k w :=
  N.case n h (fun hb => h1 (of_decide_eq_true hb)) (fun hb => h2 (of_decide_eq_false hb))
end
end Go.Proofs.YtpfehnopghffjaaGreatDoor
