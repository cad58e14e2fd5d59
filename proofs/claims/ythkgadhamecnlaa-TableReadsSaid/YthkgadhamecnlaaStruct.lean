
/-
  Structs as data: pairs of kinds, cells side by side. No program in sight.
-/
import Derived.Test.YthkgadhamecnlaaMore
import Derived.Test.YthkgadhamecnlaaRow
set_option linter.unusedVariables false
set_option maxRecDepth 20000
set_option linter.unusedSimpArgs false
namespace Go.Proofs.Ythkgadhamecnlaa
open Go Go.RowKit

/-- two kinds side by side, as a struct's fields lie -/
def Ty.pair {α β : Type} (s : Ty α) (t : Ty β) : Ty (α × β) where
  size := s.size + t.size
  rep P w v x := ∃ u u', v = .agg (u.cells ++ u'.cells) ∧ s.rep P w u x.1 ∧ t.rep P w u' x.2
  sz := by
    rintro P w _ x ⟨u, u', rfl, h1, h2⟩
    show (u.cells ++ u'.cells).size = _
    rw [Array.size_append, s.sz h1, t.sz h2]
  one := by
    rintro P w _ x ⟨u, u', rfl, h1, h2⟩ c hc
    have hc' : c ∈ (u.cells ++ u'.cells).toList := hc
    rw [Array.toList_append, List.mem_append] at hc'
    rcases hc' with h | h
    · exact s.one h1 c h
    · exact t.one h2 c h
  keep := by
    rintro P w w' _ x ⟨u, u', rfl, h1, h2⟩ hk
    exact ⟨u, u', rfl, s.keep h1 hk, t.keep h2 hk⟩
  mono := by
    rintro P P' w _ x ⟨u, u', rfl, h1, h2⟩ hk
    exact ⟨u, u', rfl, s.mono h1 hk, t.mono h2 hk⟩
/-- a kind under another name -/
def Ty.map {α β : Type} (t : Ty α) (f : β → α) : Ty β where
  size := t.size
  rep P w v y := t.rep P w v (f y)
  sz := fun h => t.sz h
  one := fun h => t.one h
  keep := fun h hk => t.keep h hk
  mono := fun h hk => t.mono h hk
/-! results that lie in cells -/
inductive ResEv (P : Program) (e : Env) (w : World) : List ResultVar → List Value → Prop where
  | nil : ResEv P e w [] []
  | tmp {t : Nat} {v : Value} {r : List ResultVar} {vs : List Value} : e.get t = some v → ResEv P e w r vs → ResEv P e w (.tmp t :: r) (v :: vs)
  | cell {a b o n : Nat} {T : TypeId} {d : TypeDesc} {cs : List Value} {r : List ResultVar} {vs : List Value} : e.get a = some (.pointer (some ⟨b, o, none⟩)) → P.underlying T = some d → aggD d = true → sizeIs P T n → cs.length = n → Cells w b o cs → ResEv P e w r vs →
      ResEv P e w (.cell a T :: r) (.agg cs.toArray :: vs)
theorem ResEv.run {P : Program} {e : Env} {w w' : World} {n : Nat} {a : Act} (hw : Same w w') (ha : Ag n e a) (f : ResultVar → Sem Value) (hf : ∀ t, f (.tmp t) = pure (a.tmps.getD t undef)) (hc : ∀ c T, f (.cell c T) = (do loadVar T (← asAddr (a.tmps.getD c undef)))) {l : List ResultVar} {vs : List Value} (h : ResEv P e w l vs) :
    (l.mapM f).run P w' = .ok vs w' := by
  induction h with
  | nil => rfl
  | tmp h1 _ ih =>
    have := ha.2.2 _ _ h1
    simp [List.mapM_cons, hf, this, ih]
  | cell h1 hT hd hs hn hcs _ ih =>
    have := ha.2.2 _ _ h1
    subst hn
    have hl := hcs.load P (.same hw)
    simp [List.mapM_cons, hc, this, ih, asAddr, loadVar, isAgg_run hT, hd, hs.run, hl]
theorem results_ev {P : Program} {e : Env} {w w' : World} {n : Nat} {a : Act} {fn : Func} {vs : List Value} (hw : Same w w') (ha : Ag n e a) (h : ResEv P e w fn.results.toList vs) : (results fn a.tmps).run P w' = .ok (outV vs) w' := by
  unfold results
  rw [Sem.run_bind, Array.mapM_eq_mapM_toList]
  rw [Sem.run_map, h.run hw ha _ (fun t => by rfl) (fun c T => by rfl)]
  simp only [Result.andThen_ok]
  match vs with
  | [] => rfl
  | [v] => rfl
  | v :: u :: r => simp [outV]
theorem G.retR {P : Program} {fn : Func} {n : Nat} {Post : Value → World → Prop} {e : Env} {k : List It} {w : World} {vs : List Value}
    (hv : ResEv P e w fn.results.toList vs) (hp : Post (outV vs) w) : G ⟨P, n, bodyPost P fn (Ret Post)⟩ e .ret k w :=
  fun w' hw a ha => wp_ret (post_ret k a w' ⟨ha.1, outV vs, results_ev hw ha hv, outV vs, w, hw, rfl, hp⟩)
/-! from a row's reading of a struct -/
def OpensFs (P : Program) (off : Nat) (fs : List Field) {α : Type} (t : Ty α) (ag : Bool) : Prop :=
  ∀ (H : Type) (enc : TypeId × Value → H) (w : World) (n : Nat) (cs : List Value) (xs : List (DataW H × List MemPlace)), xs.length = fs.length →
    (∀ (i : Nat) (f : Field), fs[i]? = some f → DataW.trod enc P w 0 (fun _ => true) true n f.type ((cs.drop f.offset).take (P.cellsOf f.type)) = xs[i]?) →
    (DataW.weightsEach P (fs.map (·.type)) (xs.map (·.1))).all (· ≤ reachBytes) = true → ∃ u y, u.cells.toList = (cs.drop off).take t.size ∧ t.rep All w u y ∧ (ag = true → isAggV u = true)
theorem opensFs_one {P : Program} {f : Field} {α : Type} {t : Ty α} (ho : Opens P f.type t) (hc : P.cellsOf f.type = t.size) : OpensFs P f.offset [f] t false := by
  intro H enc w n cs xs hl hf hw
  match xs, hl with
  | [x], _ =>
    have h1 := hf 0 f rfl
    simp only [List.getElem?_cons_zero] at h1
    have hw' : (x.1.weights P f.type).all (· ≤ reachBytes) = true := by simpa [DataW.weightsEach] using hw
    obtain ⟨u, y, e, hr, _⟩ := ho H enc w n _ _ h1 hw'
    exact ⟨u, y, by rw [e, hc], hr, fun h => by cases h⟩
theorem opensFs_cons {P : Program} {f : Field} {fs : List Field} {α β : Type} {s : Ty α} {t : Ty β} {ag : Bool} {off : Nat} (ho : Opens P f.type s) (hc : P.cellsOf f.type = s.size) (hr : OpensFs P off fs t ag) (hoff : off = f.offset + s.size) : OpensFs P f.offset (f :: fs) (s.pair t) true := by
  intro H enc w n cs xs hl hf hw
  match xs, hl with
  | x :: xs, hl =>
    have h1 := hf 0 f rfl
    simp only [List.getElem?_cons_zero] at h1
    have hw' : (x.1.weights P f.type).all (· ≤ reachBytes) = true ∧ (DataW.weightsEach P (fs.map (·.type)) (xs.map (·.1))).all (· ≤ reachBytes) = true := by
      simp only [List.map_cons, DataW.weightsEach, List.all_append, Bool.and_eq_true] at hw
      exact hw
    obtain ⟨u, y, e, hu, _⟩ := ho H enc w n _ _ h1 hw'.1
    obtain ⟨u', y', e', hu', _⟩ := hr H enc w n cs xs (by simpa using hl) (fun i g hg => by have := hf (i + 1) g (by simpa using hg); simpa using this) hw'.2
    refine ⟨.agg (u.cells ++ u'.cells), (y, y'), ?_, ⟨u, u', rfl, hu, hu'⟩, fun _ => rfl⟩
    show (u.cells ++ u'.cells).toList = _
    rw [Array.toList_append, e, e', hc, hoff, ← List.drop_drop]
    show _ = List.take (s.size + t.size) _
    rw [List.take_add]
theorem opens_struct {P : Program} {T : TypeId} {fs : List Field} {α β : Type} {t : Ty α} {f : β → α} (g : α → β) (hg : ∀ y, f (g y) = y) (hT : P.underlying T = some (.struct fs.toArray)) (hf : OpensFs P 0 fs t true) (hc : P.cellsOf T = t.size) : Opens P T (t.map f) := by
  intro H enc w fuel cs x h hwt
  obtain ⟨xs, n, _, rfl, hl, hlen, hfs⟩ := DataW.trod_struct hT h
  have hwt' : (DataW.weightsEach P (fs.map (·.type)) (xs.map (·.1))).all (· ≤ reachBytes) = true := by
    simp only [DataW.weights, hT] at hwt
    simpa using hwt
  obtain ⟨u, y, e, hr, ha⟩ := hf H enc w n cs xs (by simpa using hlen) (fun i f hi => hfs i f (by simpa using hi)) hwt'
  refine ⟨u, g y, ?_, ?_, by rw [hT, ha rfl]; rfl⟩
  · rw [e, List.drop_zero, List.take_of_length_le (by omega)]
  · show t.rep All w u (f (g y))
    rw [hg]
    exact hr
end Go.Proofs.Ythkgadhamecnlaa
