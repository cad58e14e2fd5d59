
/-
  Appends that must move what was there; functions without a body that make a block; slices cut to their own length.
-/
import Derived.Test.YthkgadhamecnlaaLo
import Derived.Test.YthkgadhamecnlaaProg
import Derived.Lib.MakeNoZero
set_option linter.unusedVariables false
set_option linter.unusedSimpArgs false
set_option maxRecDepth 20000
namespace Go.Proofs.Ythkgadhamecnlaa
open Go
section
variable {P : Program} {e : Env} {w : World} {x y : Operand} {T E : TypeId} {u : Value} {α : Type} {t : Ty α} {Q R : Nat → Prop} {xs ys : List α} {a : Option Addr} {n cap : Nat}
/-- there is no room for what is appended: all stands in a new block -/
theorem DoV.appendGrow {i : TypeInfo} {z : Value} {eb : Nat} {T' : TypeId} (hx : look e x = some (.slice a n cap)) (hv : (Sl t).rep R w (.slice a n cap) xs) (hrq : ∀ u x, t.rep R w u x → t.rep Q w u x) (hg : cap < xs.length + ys.length) (hy : look e y = some u) (hu : (∃ a cap, u = .slice a 0 cap ∧ ys = []) ∨ Holds t Q w u ys)
    (hT : P.underlying T = some (.slice E)) (hT' : P.underlying T' = some (.slice E)) (hi : P.info? E = some i) (hz : i.zero = some z) (hs : i.size = t.size) (hzs : z.cells.size = t.size) (hby : i.bytes = eb) (hlim : (xs.length + ys.length) * eb ≤ 140737488355328) (hlen : xs.length + ys.length < Lim) :
    DoV P e (.call { callee := .builtin .append, args := #[x, y], argTypes := #[T, T'] }) w (fun r w2 => Own t Q E w2 r (xs ++ ys) w.heap.size ∧ Ext (fun _ => False) w w2) := by
  intro w' hw ρ hρ o ho
  subst hby
  obtain ⟨us, hes, hsrc⟩ := src_holds (P := P) hu hT' hw
  rw [← hs] at hsrc
  have husl : (flat us).length = ys.length * t.size := by rw [flat_length (hes.mem (n := t.size) (fun u x h => t.sz h)), hes.length]
  have hgrow : ∀ (vs : List Value), n = xs.length → (Builtin.firstCells i.size xs.length (.slice a xs.length cap)).run P w'.drew = .ok (flat vs).toArray w'.drew → Each (t.rep Q w) vs xs →
      ∃ r w2 w3, (execOp ρ o).run P w' = .ok (.value r) w3 ∧ Same w2 w3 ∧ Own t Q E w2 r (xs ++ ys) w.heap.size ∧ Ext (fun _ => False) w w2 := by
    intro vs hn hfc hev
    have hge := grownCap_ge w' (xs.length + ys.length) cap E
    generalize hcap : grownCap w' (xs.length + ys.length) cap E = c2 at hge
    have hr := run_append_grow_src (P := P) w' T T' o.type E i z hT hi hz a xs.length cap (flat vs) hfc u ys.length (flat us) hsrc hg (by simp only [Lim] at hlen; omega) (growslice_fits hg hlim)
    rw [hcap] at hr
    have hcs : (flat vs ++ flat us).toArray ++ Builtin.zeroCells z.cells (c2 - (xs.length + ys.length)) = (flat (vs ++ us) ++ (Builtin.zeroCells z.cells (c2 - (xs.length + ys.length))).toList).toArray := by
      apply Array.ext'; simp [flat_append]
    rw [hcs] at hr
    let cs := flat (vs ++ us) ++ (Builtin.zeroCells z.cells (c2 - (xs.length + ys.length))).toList
    have hext : Ext (fun _ => False) w (w.alloc (.cells cs.toArray E)) := Ext.alloc w _
    refine ⟨.slice (some ⟨w.heap.size, 0, none⟩) (xs.length + ys.length) c2, w.alloc (.cells cs.toArray E), w'.drew.alloc (.cells cs.toArray E), ?_, (hw.trans (same_draw w')).alloc _, ?_, hext⟩
    · rw [hw.heap] at hr
      refine run_append_call ho ?_
      rw [hρ _ _ hx, hρ _ _ hy, hn]
      exact hr
    · refine ⟨by rw [List.length_append]; exact hlen, .inr ⟨c2, vs ++ us, (Builtin.zeroCells z.cells (c2 - (xs.length + ys.length))).toList, by rw [List.length_append], by rw [List.length_append]; exact hge, ?_, Blk.alloc _ _ _, ?_⟩⟩
      · exact (hev.append hes).imp (fun u x h => t.ext0 h hext)
      · have h1 := hev.append hes
        rw [List.length_append, flat_length (h1.mem (n := t.size) (fun u x h => t.sz h)), h1.length, show (Builtin.zeroCells z.cells (c2 - (xs.length + ys.length))).toList.length = (c2 - (xs.length + ys.length)) * t.size by rw [Array.length_toList, size_zeroCells, hzs], List.length_append, ← Nat.add_mul]
        congr 1
        omega
  obtain ⟨hl, a', cap', hv', hc, ⟨rfl, rfl⟩ | ⟨b, o', us0, rfl, hb, hlt, he0, hcs⟩⟩ := hv
  · cases hv'
    refine hgrow [] rfl ?_ .nil
    cases a with
    | none => exact run_firstCells_none w'.drew i.size 0 _ _
    | some a => exact run_firstCells_some (P := P) w'.drew i.size 0 _ _ _ [] (by simp) (fun j u hj => by simp at hj)
  · cases hv'
    refine hgrow us0 rfl ?_ (he0.imp hrq)
    refine run_firstCells_some (P := P) w'.drew i.size xs.length _ _ _ (flat us0) ?_ (fun j u hj => ?_)
    · rw [flat_length (he0.mem (n := t.size) (fun u x h => t.sz h)), he0.length, hs]
    · rw [add_none]
      show w'.cell? _ = _
      rw [hw.cell]
      exact hcs j u hj
/-- a call of a function without a body -/
theorem DoV.callX {c : Operand} {f : FuncId} {xs : List Operand} {ats : Array TypeId} {vs : List Value} {Post : Value → World → Prop} (hf : look e c = some (.func (.func f) #[] #[])) (hx : xs.mapM (look e) = some vs) (hr : ∀ w', Same w w' → ∃ r w2 w3, (callFunc f vs.toArray).run P w' = .ok (.value r) w3 ∧ Same w2 w3 ∧ Post r w2) : DoV P e (.call { callee := .value c, args := xs.toArray, argTypes := ats }) w Post :=
  fun w' hw ρ hρ o ho => by
    have h1 := run_call_value (P := P) (ρ := ρ) (first := []) (captured := []) ho (hρ _ _ hf) w'
    rw [h1, look_args hρ xs vs hx, List.nil_append, List.append_nil]
    exact hr w' hw
theorem Ev.cutHM {hi mx : Operand} {k' k2 : IntKind} {m : Nat} (hx : look e x = some (.slice a n cap)) (hh : look e hi = some (.int k' (m : Int))) (hm : look e mx = some (.int k2 (m : Int))) (hT : P.underlying T = some (.slice E)) (hs : sizeIs P E 1)
    (hb : m ≤ cap) : Ev P e (.slice T x none (some hi) (some mx)) w (cutV 1 a m 0 m) :=
  fun w' hw ρ hρ op ho => by
    have h3 : (0 : Int) ≤ (m : Int) := by omega
    have h4 : ((m : Int)) ≤ (cap : Int) := by omega
    simp [execOp, ho, hρ _ _ hx, hρ _ _ hh, hρ _ _ hm, Instr.sliceAt, Instr.slice, run_underlying hT, Instr.sliceBounds, run_sliceBound, h3, h4, hs.run, cutV]
theorem cutHM_eq {c : Nat} {m : Nat} : cutV 1 (some ⟨c, 0, none⟩) m 0 m = .slice (some ⟨c, 0, none⟩) m m := by
  unfold cutV
  split
  · rfl
  · rfl
end
/-- bytes of no certain worth -/
theorem makeNoZero_do {e : Env} {w : World} {y c : Operand} {n : Nat} {ats : Array TypeId} (hf : look e c = some (.func (.func 65) #[] #[])) (hy : look e y = some (i64 (n : Int))) (hn : n ≤ 281474976710656) :
    DoV Try.prog e (.call { callee := .value c, args := #[y], argTypes := ats }) w (fun r w2 => ∃ cs : List Value, r = .slice (some ⟨w.heap.size, 0, none⟩) n cs.length ∧ n ≤ cs.length ∧ New w w2 5 cs) := by
  refine DoV.callX (xs := [y]) (vs := [i64 (n : Int)]) hf (by simp [hy]) (fun w' hw => ?_)
  obtain ⟨cs, hr, h1, h2⟩ := Lib.run_makeNoZero (P := Try.prog) w' #[3] 24 5 Try.underlying24 n hn
  refine ⟨.slice (some ⟨w.heap.size, 0, none⟩) n cs.size, w.alloc (.cells cs 5), w'.drew.drew.alloc (.cells cs 5), ?_, ((hw.trans (same_draw w')).trans (same_draw _)).alloc _, cs.toList, by rw [Array.length_toList], by rw [Array.length_toList]; exact h1, New.alloc w 5 cs.toList⟩
  rw [run_callFunc_extern Try.func65 (by kernel_rfl) (by kernel_rfl) (by kernel_rfl) (e := Extern.BytealgMakeNoZero.makeNoZero #[3] #[24]) (by kernel_rfl), ← hw.heap]
  rw [show #[i64 (n : Int)] = #[Value.int .i64 n] from rfl, hr]
  rfl
end Go.Proofs.Ythkgadhamecnlaa
