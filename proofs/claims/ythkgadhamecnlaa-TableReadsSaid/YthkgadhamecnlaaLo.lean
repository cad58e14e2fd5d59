
/-
  Slices of a call's own that grow, nil or in a block that was not there at the start. No program in sight.
-/
import Derived.Test.YthkgadhamecnlaaCut
set_option linter.unusedVariables false
set_option maxRecDepth 20000
set_option linter.unusedSimpArgs false
namespace Go.Proofs.Ythkgadhamecnlaa
open Go
theorem OwnO.ofOwn {α : Type} {t : Ty α} {Q B : Nat → Prop} {E : TypeId} {w : World} {v : Value} {xs : List α} {b : Nat} (h : Own t Q E w v xs b) (hb : b < w.heap.size → B b) : OwnO t Q E w v xs B := by
  have h' := h
  obtain ⟨hl, ⟨rfl, rfl⟩ | ⟨cap, us, sp, rfl, hc, he, hB, hn⟩⟩ := h'
  · exact .inl ⟨rfl, rfl⟩
  · exact .inr ⟨b, hb hB.lt, hB.lt, h⟩
theorem OwnO.lim {α : Type} {t : Ty α} {Q B : Nat → Prop} {E : TypeId} {w : World} {v : Value} {xs : List α} (h : OwnO t Q E w v xs B) : xs.length < Lim := by
  rcases h with ⟨rfl, _⟩ | ⟨b, _, _, h⟩
  · show 0 < Lim; decide
  · exact h.lim
section
variable {P : Program} {e : Env} {w : World} {x y : Operand} {T T' E : TypeId} {v u : Value} {α : Type} {t : Ty α} {Q : Nat → Prop} {xs ys : List α} {B : Nat → Prop}
theorem DoV.appendLo {i : TypeInfo} {z : Value} {eb : Nat} (hx : look e x = some v) (hv : OwnO t Q E w v xs B) (hlo : ∀ k, w.heap.size ≤ k → B k) (hy : look e y = some u) (hu : (∃ a cap, u = .slice a 0 cap ∧ ys = []) ∨ Holds t Q w u ys)
    (hT : P.underlying T = some (.slice E)) (hT' : P.underlying T' = some (.slice E)) (hi : P.info? E = some i) (hz : i.zero = some z) (hs : i.size = t.size) (hzs : z.cells.size = t.size) (hby : i.bytes = eb) (hlim : (xs.length + ys.length) * eb ≤ 140737488355328) (hlen : xs.length + ys.length < Lim) (hq : ∀ k, Q k → k < w.heap.size → ¬ B k) :
    DoV P e (.call { callee := .builtin .append, args := #[x, y], argTypes := #[T, T'] }) w (fun r w2 => OwnO t Q E w2 r (xs ++ ys) B ∧ Ext B w w2) := by
  have key : ∀ b, B b → Own t Q E w v xs b → DoV P e (.call { callee := .builtin .append, args := #[x, y], argTypes := #[T, T'] }) w (fun r w2 => OwnO t Q E w2 r (xs ++ ys) B ∧ Ext B w w2) := by
    intro b hb hO w' hw ρ hρ o ho
    obtain ⟨r, w2, w3, h1, h2, b', h3, h4, h5⟩ := DoV.append (P := P) hx hO hy hu hT hT' hi hz hs hzs hby hlim hlen (fun k hk hlt he => hq k hk hlt (he ▸ hb)) w' hw ρ hρ o ho
    exact ⟨r, w2, w3, h1, h2, OwnO.ofOwn (h3.mono (fun k hk _ => hk.1)) (fun _ => h5.elim (fun e => by rw [e]; exact hb) (fun e => by rw [e]; exact hlo _ (Nat.le_refl _))), h4.mono (fun k _ hk => by rw [hk]; exact hb)⟩
  rcases hv with ⟨rfl, rfl⟩ | ⟨b, hb, _, hO⟩
  · exact key w.heap.size (hlo _ (Nat.le_refl _)) Own.nil
  · exact key b hb hO
theorem DoV.appendSLo {i : TypeInfo} {z : Value} {bx l : Bs} (hx : look e x = some v) (hv : OwnO tByte Q E w v bx B) (hlo : ∀ k, w.heap.size ≤ k → B k) (hy : look e y = some (str l))
    (hT : P.underlying T = some (.slice E)) (hT' : P.underlying T' = some .string) (hi : P.info? E = some i) (hz : i.zero = some z) (hs : i.size = 1) (hzs : z.cells.size = 1) (hby : i.bytes = 1) (hlen : bx.length + l.length < Lim) (hq : ∀ k, Q k → k < w.heap.size → ¬ B k) :
    DoV P e (.call { callee := .builtin .append, args := #[x, y], argTypes := #[T, T'] }) w (fun r w2 => OwnO tByte Q E w2 r (bx ++ l) B ∧ Ext B w w2) := by
  have key : ∀ b, B b → Own tByte Q E w v bx b → DoV P e (.call { callee := .builtin .append, args := #[x, y], argTypes := #[T, T'] }) w (fun r w2 => OwnO tByte Q E w2 r (bx ++ l) B ∧ Ext B w w2) := by
    intro b hb hO w' hw ρ hρ o ho
    obtain ⟨r, w2, w3, h1, h2, b', h3, h4, h5⟩ := DoV.appendS (P := P) hx hO hy hT hT' hi hz hs hzs hby hlen (fun k hk hlt he => hq k hk hlt (he ▸ hb)) w' hw ρ hρ o ho
    exact ⟨r, w2, w3, h1, h2, OwnO.ofOwn (h3.mono (fun k hk _ => hk.1)) (fun _ => h5.elim (fun e => by rw [e]; exact hb) (fun e => by rw [e]; exact hlo _ (Nat.le_refl _))), h4.mono (fun k _ hk => by rw [hk]; exact hb)⟩
  rcases hv with ⟨rfl, rfl⟩ | ⟨b, hb, _, hO⟩
  · exact key w.heap.size (hlo _ (Nat.le_refl _)) Own.nil
  · exact key b hb hO
end
/-- bytes that grow: nil or in a block of the call's own -/
abbrev Gr (w : World) (v : Value) (l : Bs) (lo : Nat) : Prop := OwnO tByte (fun _ => False) 5 w v l (fun k => lo ≤ k)
theorem Gr.rep {w : World} {v : Value} {l : Bs} {lo : Nat} (h : Gr w v l lo) : tBytes.rep All w v l := OwnO.rep h (fun _ _ _ => trivial) (fun _ h _ => h.elim)
theorem Gr.rep' {w : World} {v : Value} {l : Bs} {lo : Nat} (h : Gr w v l lo) : tBytes.rep (fun k => lo ≤ k ∧ k < w.heap.size) w v l := OwnO.rep h (fun _ h1 h2 => ⟨h1, h2⟩) (fun _ h _ => h.elim)
theorem Gr.low {w : World} {v : Value} {l : Bs} {lo lo' : Nat} (h : Gr w v l lo) (hl : lo' ≤ lo) : Gr w v l lo' := OwnO.mono h (fun _ h _ => h) (fun k h _ => Nat.le_trans hl h)
theorem Gr.ext0 {w w' : World} {v : Value} {l : Bs} {lo : Nat} (h : Gr w v l lo) (hx : Ext (fun _ => False) w w') : Gr w' v l lo := OwnO.ext0 h hx
theorem Gr.holds {w : World} {v : Value} {l : Bs} {P : Nat → Prop} (h : tBytes.rep P w v l) : (∃ a cap, v = .slice a 0 cap ∧ l = []) ∨ Holds tByte (fun _ => False) w v l := Sl.holds h (fun _ _ h => h)
theorem Sl.recap {α : Type} {t : Ty α} {P : Nat → Prop} {w : World} {a : Option Addr} {n cap m : Nat} {xs : List α} (h : (Sl t).rep P w (.slice a n cap) xs) (h1 : n ≤ m) (h2 : m ≤ cap) : (Sl t).rep P w (.slice a n m) xs := by
  obtain ⟨hl, a', cap', e, hc, h⟩ := h
  cases e
  refine ⟨hl, a, m, rfl, h1, ?_⟩
  rcases h with ⟨h, rfl⟩ | h
  · exact .inl ⟨h, by omega⟩
  · exact .inr h
theorem Ev.cut3 {P : Program} {e : Env} {w : World} {x lo hi mx : Operand} {T E : TypeId} {a : Option Addr} {n cap s : Nat} {k k' k2 : IntKind} {l h m : Int} (hx : look e x = some (.slice a n cap)) (hl : look e lo = some (.int k l)) (hh : look e hi = some (.int k' h)) (hm : look e mx = some (.int k2 m)) (hT : P.underlying T = some (.slice E)) (hs : sizeIs P E s)
    (hb : 0 ≤ l ∧ l ≤ h ∧ h ≤ m ∧ m ≤ cap) : Ev P e (.slice T x (some lo) (some hi) (some mx)) w (cutV s a m.toNat l.toNat h.toNat) :=
  fun w' hw ρ hρ op ho => by
    have h1 : 0 ≤ h := by omega
    have h2 : ((h.toNat : Nat) : Int) = h := Int.toNat_of_nonneg h1
    have h3 : 0 ≤ m := by omega
    have h4 : ((m.toNat : Nat) : Int) = m := Int.toNat_of_nonneg h3
    simp [execOp, ho, hρ _ _ hx, hρ _ _ hl, hρ _ _ hh, hρ _ _ hm, Instr.sliceAt, Instr.slice, run_underlying hT, Instr.sliceBounds, run_sliceBound, hb.1, hb.2.1, hb.2.2.1, hb.2.2.2, h1, h2, h3, h4, hs.run, cutV]
/-- a call of a function without a body: its value -/
theorem Ev.callX {P : Program} {e : Env} {w : World} {c : Operand} {f : FuncId} {xs : List Operand} {ats : Array TypeId} {vs : List Value} {v : Value} (hf : look e c = some (.func (.func f) #[] #[])) (hx : xs.mapM (look e) = some vs) (hr : ∀ w, (callFunc f vs.toArray).run P w = .ok (.value v) w) : Ev P e (.call { callee := .value c, args := xs.toArray, argTypes := ats }) w v :=
  fun w' _ ρ hρ o ho => by
    have h1 := run_call_value (P := P) (ρ := ρ) (first := []) (captured := []) ho (hρ _ _ hf) w'
    rw [h1, look_args hρ xs vs hx, List.nil_append, List.append_nil]
    exact hr w'
theorem Ev.ltS {P : Program} {e : Env} {w : World} {x y : Operand} {T T' : TypeId} {a b : Bs} (hx : look e x = some (str a)) (hy : look e y = some (str b)) : Ev P e (.binOp .lss T x y T') w (.bool (Op.bytesLess a b)) :=
  fun w' _ ρ hρ o ho => by
    have h1 : (bs a).toList = a := bs_toList a
    have h2 : (bs b).toList = b := bs_toList b
    simp [execOp, ho, hρ _ _ hx, hρ _ _ hy, eqGuard, binOp, Op.stringOp, h1, h2]
theorem Ev.add8 {P : Program} {e : Env} {w : World} {x y : Operand} {T T' : TypeId} {a b : UInt8} (hx : look e x = some (u8 a)) (hy : look e y = some (u8 b)) : Ev P e (.binOp .add T x y T') w (u8 (a + b)) :=
  fun w' _ ρ hρ o ho => by
    have h : IntKind.u8.wrap ((a.toNat : Int) + (b.toNat : Int)) = ((a + b).toNat : Int) := by
      rw [IntKind.wrap_u8, UInt8.toNat_add]
      omega
    simp [execOp, ho, hρ _ _ hx, hρ _ _ hy, eqGuard, binOp, Op.intArith]
    exact h
end Go.Proofs.Ythkgadhamecnlaa
