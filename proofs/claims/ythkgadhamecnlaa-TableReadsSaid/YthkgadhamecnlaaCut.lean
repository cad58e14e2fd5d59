
/-
  A slice of a slice, taken apart. No program in sight.
-/
import Derived.Test.YthkgadhamecnlaaMore
set_option linter.unusedVariables false
set_option maxRecDepth 20000
namespace Go.Proofs.Ythkgadhamecnlaa
open Go
theorem Sl.cutE {α : Type} {t : Ty α} {P : Nat → Prop} {w : World} {xs : List α} {a : Option Addr} {n cap : Nat} (h : (Sl t).rep P w (.slice a n cap) xs) (l k : Nat) (h1 : l ≤ k) (h2 : k ≤ n) :
    ∃ a' cap', cutV t.size a cap l k = .slice a' (k - l) cap' ∧ k - l ≤ cap' ∧ (Sl t).rep P w (.slice a' (k - l) cap') ((xs.take k).drop l) := by
  have hr := Sl.cut h l k h1 h2
  obtain ⟨a', cap', hv, hc⟩ := Sl.val hr
  have hn : xs.length = n := by obtain ⟨_, a0, c0, e, _⟩ := h; cases e; rfl
  have hlen : ((xs.take k).drop l).length = k - l := by simp; omega
  rw [hlen] at hv hc
  rw [hv] at hr
  exact ⟨a', cap', hv, hc, hr⟩
theorem flat_set {n : Nat} : ∀ {us : List Value} (i j : Nat) (u v' : Value), (∀ x ∈ us, x.cells.size = n) → j < n → (∀ x, us[i]? = some x → v'.cells.toList = x.cells.toList.set j u) → (flat us).set (i * n + j) u = flat (us.set i v')
  | [], i, j, u, v', _, _, _ => by simp [flat]
  | x :: us, 0, j, u, v', h, hj, hv => by
    have hx : x.cells.toList.length = n := by rw [Array.length_toList, h x (by simp)]
    rw [List.set_cons_zero, flat_cons, flat_cons, Nat.zero_mul, Nat.zero_add, List.set_append_left _ _ (by omega), hv x (by simp)]
  | x :: us, i + 1, j, u, v', h, hj, hv => by
    have hx : x.cells.toList.length = n := by rw [Array.length_toList, h x (by simp)]
    have hle : x.cells.toList.length ≤ (i + 1) * n + j := by rw [hx, Nat.add_mul]; omega
    rw [List.set_cons_succ, flat_cons, flat_cons, List.set_append_right _ _ hle, ← flat_set i j u v' (fun y hy => h y (by simp [hy])) hj (fun y hy => hv y (by simpa using hy))]
    congr 2
    rw [hx, Nat.add_mul]
    omega
/-- a slice of the call's own, nil or in a block that B allows -/
def OwnO {α : Type} (t : Ty α) (Q : Nat → Prop) (E : TypeId) (w : World) (v : Value) (xs : List α) (B : Nat → Prop) : Prop :=
  (xs = [] ∧ v = .slice none 0 0) ∨ ∃ b, B b ∧ b < w.heap.size ∧ Own t Q E w v xs b
section
variable {α : Type} {t : Ty α} {Q Q' : Nat → Prop} {E : TypeId} {w w' : World} {v : Value} {xs ys : List α} {B B' : Nat → Prop}
theorem OwnO.nil : OwnO t Q E w (.slice none 0 0) [] B := .inl ⟨rfl, rfl⟩
theorem OwnO.of {b : Nat} (h : Own t Q E w v xs b) (hb : B b) : OwnO t Q E w v xs B := by
  have h' := h
  obtain ⟨hl, ⟨rfl, rfl⟩ | ⟨cap, us, sp, rfl, hc, he, hB, hn⟩⟩ := h'
  · exact .inl ⟨rfl, rfl⟩
  · exact .inr ⟨b, hb, hB.lt, h⟩
theorem OwnO.val (h : OwnO t Q E w v xs B) : ∃ a cap, v = .slice a xs.length cap ∧ xs.length ≤ cap := by
  rcases h with ⟨rfl, rfl⟩ | ⟨b, _, _, h⟩
  · exact ⟨none, 0, rfl, Nat.le_refl _⟩
  · exact h.val
theorem OwnO.mono (h : OwnO t Q E w v xs B) (hq : ∀ k, Q k → k < w.heap.size → Q' k) (hb : ∀ k, B k → k < w.heap.size → B' k) : OwnO t Q' E w v xs B' := by
  rcases h with h | ⟨b, h1, h2, h3⟩
  · exact .inl h
  · exact .inr ⟨b, hb b h1 h2, h2, h3.mono hq⟩
theorem OwnO.ext {S : Nat → Prop} (h : OwnO t Q E w v xs B) (hx : Ext S w w') (hb : ∀ k, B k → k < w.heap.size → ¬ S k) (hq : ∀ k, Q k → k < w.heap.size → ¬ S k) : OwnO t Q E w' v xs B := by
  rcases h with h | ⟨b, h1, h2, h3⟩
  · exact .inl h
  · exact .inr ⟨b, h1, Nat.lt_of_lt_of_le h2 hx.size, h3.ext hx (hb b h1 h2) hq⟩
theorem OwnO.ext0 (h : OwnO t Q E w v xs B) (hx : Ext (fun _ => False) w w') : OwnO t Q E w' v xs B := h.ext hx (fun _ _ _ x => x) (fun _ _ _ x => x)
theorem OwnO.rep {R : Nat → Prop} (h : OwnO t Q E w v xs B) (hb : ∀ k, B k → k < w.heap.size → R k) (hq : ∀ k, Q k → k < w.heap.size → R k) : (Sl t).rep R w v xs := by
  rcases h with ⟨rfl, rfl⟩ | ⟨b, h1, h2, h3⟩
  · exact Sl.nil
  · exact h3.rep (hb b h1 h2) hq
end
theorem Ev.makeFunc {P : Program} {e : Env} {w : World} {fn : Go.Fn} {xs ys : List Operand} {us vs : List Value} (hx : xs.mapM (look e) = some us) (hy : ys.mapM (look e) = some vs) : Ev P e (.makeFunc fn xs.toArray ys.toArray) w (.func fn us.toArray vs.toArray) :=
  fun w' _ ρ hρ o ho => by
    have h1 := look_args hρ xs us hx
    have h2 := look_args hρ ys vs hy
    simp [execOp, ho, Instr.makeFunc, h1, h2]
end Go.Proofs.Ythkgadhamecnlaa
