import Derived.Test.YtpfehnopghffjaaGreatDoorQ23
import Derived.Test.YtpfehnopghffjaaGreatDoorQ24
set_option linter.unusedVariables false
set_option linter.unusedSimpArgs false
set_option maxRecDepth 20000
/-
  Package files: what Turn keeps: lists of its own, told apart by colours of their blocks.
-/
namespace Go.Proofs.YtpfehnopghffjaaGreatDoor
open Go
section
variable {P : Program} {e : Env} {w : World} {x y : Operand} {T T' E : TypeId}
/-- copy from a text that may be longer -/
theorem DoV.copyST {l : Bs} {c o dn dc : Nat} {cs : List Value} (hx : look e x = some (.slice (some ⟨c, o, none⟩) dn dc)) (hB : Blk w c E cs) (hy : look e y = some (str l)) (hT : P.underlying T = some (.slice E)) (hs : sizeIs P E 1) (hfit : o + min l.length dn ≤ cs.length) :
    DoV P e (.call { callee := .builtin .copy, args := #[x, y], argTypes := #[T, T'] }) w (fun r w2 => r = i64 (min l.length dn : Nat) ∧ Put w w2 c E (cs.take o ++ (l.take (min l.length dn)).map u8 ++ cs.drop (o + min l.length dn))) := by
  intro w' hw ρ hρ op ho
  have hB' : Blk w' c E cs := hB.keep (by rw [hw.heap])
  have hmap : (bs l).data.toList.map (fun x => Value.int .u8 (x.toNat : Int)) = l.map u8 := by simp [bs]
  have hlen : ((l.take (min l.length dn)).map u8).length = min l.length dn := by simp
  have hst := run_storeCells_cells (P := P) c o ((l.take (min l.length dn)).map u8) 0 w' (fun j hj => by rw [Nat.add_zero, hB'.cell, List.getElem?_eq_getElem (by omega)]; rfl) (fun j hj => by rw [Nat.add_zero]; exact hB'.thawed _ (by omega)) (by intro v hv; obtain ⟨q, _, rfl⟩ := List.mem_map.1 hv; rfl)
  have hmin : Nat.min (bs l).size dn = min l.length dn := by rw [bs_size]
  refine ⟨i64 (min l.length dn : Nat), putCells w c o ((l.take (min l.length dn)).map u8), putCells w' c o ((l.take (min l.length dn)).map u8), run_copy_call ho ?_, hw.putCells c _ _, rfl, ?_⟩
  · rw [hρ _ _ hx, hρ _ _ hy]
    simp [Builtin.copy_, run_underlying hT, Builtin.lenOf, Builtin.firstCells, hs.run, hmin]
    first | rw [hst, putCells_setCells] | rw [hmap, ← List.map_take, hst, putCells_setCells]
    rfl
  · have hb2 := hB.put ((l.take (min l.length dn)).map u8) o
    rw [splice_eq _ _ _ (by rw [hlen]; exact hfit), hlen] at hb2
    exact ⟨hb2, putCells_ext _ _ _ _, putCells_size _ _ _ _⟩
end
namespace disk
def tActO : Ty Act := (tBool.pair tPutO).map (fun a => (a.flush, a.put))
theorem tActO.val {P : Nat → Prop} {w : World} {v : Value} {a : Act} (h : tActO.rep P w v a) : ∃ u, v = .agg #[.bool a.flush, i64 a.put.sector, u] ∧ tOwnB.rep P w u a.put.data ∧ -9223372036854775808 ≤ a.put.sector ∧ a.put.sector ≤ 9223372036854775807 := by
  obtain ⟨u, u', rfl, rfl, h2⟩ := h
  obtain ⟨x, rfl, h3, h4⟩ := tPutO.val h2
  exact ⟨x, rfl, h3, h4⟩
theorem tActO.mk {P : Nat → Prop} {w : World} {a : Act} {u : Value} (h : tOwnB.rep P w u a.put.data) (h1 : -9223372036854775808 ≤ a.put.sector ∧ a.put.sector ≤ 9223372036854775807) : tActO.rep P w (.agg #[.bool a.flush, i64 a.put.sector, u]) a :=
  ⟨.bool a.flush, .agg #[i64 a.put.sector, u], rfl, rfl, tPutO.mk h h1⟩
theorem tActO.weak {P : Nat → Prop} {w : World} {v : Value} {a : Act} (h : tActO.rep P w v a) : tAct.rep P w v a := by
  obtain ⟨u, u', rfl, h1, h2⟩ := h
  exact ⟨u, u', rfl, h1, tPutO.weak h2⟩
end disk
/-- the colours of blocks, the new ones of colour φ -/
def col (γ : Nat → Nat) (n φ : Nat) : Nat → Nat := fun k => if k < n then γ k else φ
theorem col_old {γ : Nat → Nat} {n φ k : Nat} (h : k < n) : col γ n φ k = γ k := if_pos h
theorem col_new {γ : Nat → Nat} {n φ k : Nat} (h : n ≤ k) : col γ n φ k = φ := if_neg (by omega)
theorem own_col {α : Type} {t : Ty α} {E : TypeId} {w w2 : World} {v : Value} {xs : List α} {γ : Nat → Nat} {φ ψ θ q : Nat} (h : OwnO t (fun k => γ k = q) E w v xs (fun k => γ k = θ)) (hx : Ext (fun k => col γ w.heap.size φ k = ψ) w w2) (h1 : θ ≠ ψ) (h2 : q ≠ ψ) : OwnO t (fun k => col γ w.heap.size φ k = q) E w2 v xs (fun k => col γ w.heap.size φ k = θ) :=
  OwnO.mono (OwnO.ext (OwnO.mono h (Q' := fun k => γ k = q ∧ k < w.heap.size) (B' := fun k => γ k = θ ∧ k < w.heap.size) (fun k h hl => ⟨h, hl⟩) (fun k h hl => ⟨h, hl⟩)) hx (fun k hk _ e => by have e : col γ w.heap.size φ k = ψ := e; rw [col_old hk.2, hk.1] at e; exact h1 e) (fun k hk _ e => by have e : col γ w.heap.size φ k = ψ := e; rw [col_old hk.2, hk.1] at e; exact h2 e))
    (fun k hk _ => by show col _ _ _ _ = _; rw [col_old hk.2]; exact hk.1) (fun k hk _ => by show col _ _ _ _ = _; rw [col_old hk.2]; exact hk.1)
theorem own_col0 {α : Type} {t : Ty α} {E : TypeId} {w w2 : World} {v : Value} {xs : List α} {γ : Nat → Nat} {φ θ q : Nat} (h : OwnO t (fun k => γ k = q) E w v xs (fun k => γ k = θ)) (hx : Ext (fun _ => False) w w2) : OwnO t (fun k => col γ w.heap.size φ k = q) E w2 v xs (fun k => col γ w.heap.size φ k = θ) :=
  OwnO.mono (OwnO.ext0 (OwnO.mono h (Q' := fun k => γ k = q ∧ k < w.heap.size) (B' := fun k => γ k = θ ∧ k < w.heap.size) (fun k h hl => ⟨h, hl⟩) (fun k h hl => ⟨h, hl⟩)) hx)
    (fun k hk _ => by show col _ _ _ _ = _; rw [col_old hk.2]; exact hk.1) (fun k hk _ => by show col _ _ _ _ = _; rw [col_old hk.2]; exact hk.1)
theorem own_colF {α : Type} {t : Ty α} {E : TypeId} {w w2 : World} {v : Value} {xs : List α} {γ : Nat → Nat} {φ ψ θ : Nat} (h : OwnO t (fun _ => False) E w v xs (fun k => γ k = θ)) (hx : Ext (fun k => col γ w.heap.size φ k = ψ) w w2) (h1 : θ ≠ ψ) : OwnO t (fun _ => False) E w2 v xs (fun k => col γ w.heap.size φ k = θ) :=
  OwnO.mono (OwnO.ext (OwnO.mono h (Q' := fun _ => False) (B' := fun k => γ k = θ ∧ k < w.heap.size) (fun _ h _ => h) (fun k h hl => ⟨h, hl⟩)) hx (fun k hk _ e => by have e : col γ w.heap.size φ k = ψ := e; rw [col_old hk.2, hk.1] at e; exact h1 e) (fun _ h _ => h.elim))
    (fun _ h _ => h) (fun k hk _ => by show col _ _ _ _ = _; rw [col_old hk.2]; exact hk.1)
theorem own_colF0 {α : Type} {t : Ty α} {E : TypeId} {w w2 : World} {v : Value} {xs : List α} {γ : Nat → Nat} {φ θ : Nat} (h : OwnO t (fun _ => False) E w v xs (fun k => γ k = θ)) (hx : Ext (fun _ => False) w w2) : OwnO t (fun _ => False) E w2 v xs (fun k => col γ w.heap.size φ k = θ) :=
  OwnO.mono (OwnO.ext0 (OwnO.mono h (Q' := fun _ => False) (B' := fun k => γ k = θ ∧ k < w.heap.size) (fun _ h _ => h) (fun k h hl => ⟨h, hl⟩)) hx)
    (fun _ h _ => h) (fun k hk _ => by show col _ _ _ _ = _; rw [col_old hk.2]; exact hk.1)
/-- before an append: the list's blocks, and all new ones -/
theorem own_pre {α : Type} {t : Ty α} {E : TypeId} {w : World} {v : Value} {xs : List α} {γ : Nat → Nat} {θ q : Nat} (h : OwnO t (fun k => γ k = q) E w v xs (fun k => γ k = θ)) : OwnO t (fun k => γ k = q ∧ k < w.heap.size) E w v xs (fun k => col γ w.heap.size θ k = θ) :=
  OwnO.mono h (fun k h hl => ⟨h, hl⟩) (fun k h hl => by show col _ _ _ _ = _; rw [col_old hl]; exact h)
theorem own_post {α : Type} {t : Ty α} {E : TypeId} {w w2 : World} {v : Value} {xs : List α} {γ : Nat → Nat} {θ q : Nat} (h : OwnO t (fun k => γ k = q ∧ k < w.heap.size) E w2 v xs (fun k => col γ w.heap.size θ k = θ)) : OwnO t (fun k => col γ w.heap.size θ k = q) E w2 v xs (fun k => col γ w.heap.size θ k = θ) :=
  OwnO.mono h (fun k h _ => by show col _ _ _ _ = _; rw [col_old h.2]; exact h.1) (fun _ h _ => h)
namespace files
open room
/-- what Turn keeps: its cells have colour 0; 1: pieces in use; 2: acts; 3: files; 5: what files point at; 6: the bytes of acts -/
structure TD (w0 : World) (c : Nat) (γ : Nat → Nat) (g : Int) (us : List Piece) (zs : List disk.Act) (fs : List File) (cs : List Change) (vU vA vF vC : Value) (W : World) : Prop where
  cell : Blk W c 24 [i64 g, vF]
  o1 : OwnO tPiece (fun _ => False) 40 W vU us (fun k => γ k = 1)
  o2 : OwnO disk.tActO (fun k => γ k = 6) 78 W vA zs (fun k => γ k = 2)
  o3 : OwnO tFile (fun k => γ k = 5) 28 W vF fs (fun k => γ k = 3)
  o4 : (Sl tree.tChange).rep (fun k => γ k = 8) W vC cs
  ext : Ext (fun _ => False) w0 W
  c0 : γ c = 0
  cw : w0.heap.size ≤ c
  low : ∀ k, k < w0.heap.size → γ k = 5
theorem rep_col {α : Type} {t : Ty α} {w w2 : World} {v : Value} {x : α} {γ : Nat → Nat} {φ ψ θ : Nat} (h : t.rep (fun k => γ k = θ) w v x) (hx : Ext (fun k => col γ w.heap.size φ k = ψ) w w2) (h1 : θ ≠ ψ) : t.rep (fun k => col γ w.heap.size φ k = θ) w2 v x :=
  t.mono (t.ext (t.mono h (P' := fun k => γ k = θ ∧ k < w.heap.size) (fun k h hl => ⟨h, hl⟩)) hx (fun k hk _ e => by have e : col γ w.heap.size φ k = ψ := e; rw [col_old hk.2, hk.1] at e; exact h1 e)) (fun k hk _ => by show col _ _ _ _ = _; rw [col_old hk.2]; exact hk.1)
theorem rep_col0 {α : Type} {t : Ty α} {w w2 : World} {v : Value} {x : α} {γ : Nat → Nat} {φ θ : Nat} (h : t.rep (fun k => γ k = θ) w v x) (hx : Ext (fun _ => False) w w2) : t.rep (fun k => col γ w.heap.size φ k = θ) w2 v x :=
  t.mono (t.ext0 (t.mono h (P' := fun k => γ k = θ ∧ k < w.heap.size) (fun k h hl => ⟨h, hl⟩)) hx) (fun k hk _ => by show col _ _ _ _ = _; rw [col_old hk.2]; exact hk.1)
/-- what an inner loop keeps beside: a change in its cell, sectors -/
structure TI (γ : Nat → Nat) (c : Nat) (ch : Change) (vS : Value) (ss : List Int) (W : World) : Prop where
  b : Blk W c 80 [str ch.key, str ch.value, .bool ch.gone]
  g0 : γ c = 0
  s : (Sl tInt).rep (fun k => γ k = 4) W vS ss
theorem TI.quiet {γ : Nat → Nat} {c : Nat} {ch : Change} {vS : Value} {ss : List Int} {W W' : World} (h : TI γ c ch vS ss W) (hx : Ext (fun _ => False) W W') (φ : Nat) : TI (col γ W.heap.size φ) c ch vS ss W' := ⟨h.b.ext hx (fun x => x), by rw [col_old h.b.lt]; exact h.g0, rep_col0 h.s hx⟩
theorem TI.app {γ : Nat → Nat} {c : Nat} {ch : Change} {vS : Value} {ss : List Int} {W W' : World} (h : TI γ c ch vS ss W) {φ ψ : Nat} (hx : Ext (fun k => col γ W.heap.size φ k = ψ) W W') (h0 : 0 ≠ ψ) (h4 : 4 ≠ ψ) : TI (col γ W.heap.size φ) c ch vS ss W' := ⟨h.b.ext hx (fun e => by have e : col γ W.heap.size φ c = ψ := e; rw [col_old h.b.lt, h.g0] at e; exact h0 e), by rw [col_old h.b.lt]; exact h.g0, rep_col h.s hx h4⟩
section
variable {w0 W W' : World} {c : Nat} {γ : Nat → Nat} {g g' : Int} {us us' : List Piece} {zs zs' : List disk.Act} {fs fs' : List File} {cs : List Change} {vU vA vF vU' vA' vF' vC : Value}
theorem TD.nc {θ : Nat} (h : TD w0 c γ g us zs fs cs vU vA vF vC W) (h0 : 0 ≠ θ) (φ : Nat) : ¬ col γ W.heap.size φ c = θ := by rw [col_old h.cell.lt, h.c0]; exact h0
theorem TD.lt (h : TD w0 c γ g us zs fs cs vU vA vF vC W) : c < W.heap.size := h.cell.lt
theorem TD.quiet (h : TD w0 c γ g us zs fs cs vU vA vF vC W) (hx : Ext (fun _ => False) W W') (φ : Nat) : TD w0 c (col γ W.heap.size φ) g us zs fs cs vU vA vF vC W' := by
  have hs := h.ext.size
  exact ⟨h.cell.ext hx (fun x => x), own_colF0 h.o1 hx, own_col0 h.o2 hx, own_col0 h.o3 hx, rep_col0 h.o4 hx, h.ext.trans hx, by rw [col_old h.lt]; exact h.c0, h.cw, fun k hk => by rw [col_old (by omega)]; exact h.low k hk⟩
theorem TD.colour (h : TD w0 c γ g us zs fs cs vU vA vF vC W) {k ψ : Nat} (hψ : ψ ≠ 5 ∨ w0.heap.size ≤ k) (h0 : ψ ≠ 0) (hk : col γ W.heap.size ψ k = ψ) (hl : k < W.heap.size) (h5 : ψ ≠ 5) : k ≠ c ∧ w0.heap.size ≤ k := by
  rw [col_old hl] at hk
  refine ⟨fun e => by rw [e, h.c0] at hk; exact h0 hk.symm, ?_⟩
  rcases Nat.lt_or_ge k w0.heap.size with h2 | h2
  · rw [h.low k h2] at hk; exact absurd hk.symm h5
  · exact h2
/-- pieces appended -/
theorem TD.app1 (h : TD w0 c γ g us zs fs cs vU vA vF vC W) (hx : Ext (fun k => col γ W.heap.size 1 k = 1) W W') (ho : OwnO tPiece (fun _ => False) 40 W' vU' us' (fun k => col γ W.heap.size 1 k = 1)) : TD w0 c (col γ W.heap.size 1) g us' zs fs cs vU' vA vF vC W' := by
  have hs := h.ext.size
  have hc : ¬ col γ W.heap.size 1 c = 1 := by rw [col_old h.lt, h.c0]; decide
  exact ⟨h.cell.ext hx hc, ho, own_col h.o2 hx (by decide) (by decide), own_col h.o3 hx (by decide) (by decide), rep_col h.o4 hx (by decide), h.ext.then hx (fun k e hl => (h.colour (.inl (by decide)) (by decide) e hl (by decide)).2), by rw [col_old h.lt]; exact h.c0, h.cw, fun k hk => by rw [col_old (by omega)]; exact h.low k hk⟩
/-- acts appended -/
theorem TD.app2 (h : TD w0 c γ g us zs fs cs vU vA vF vC W) (hx : Ext (fun k => col γ W.heap.size 2 k = 2) W W') (ho : OwnO disk.tActO (fun k => col γ W.heap.size 2 k = 6) 78 W' vA' zs' (fun k => col γ W.heap.size 2 k = 2)) : TD w0 c (col γ W.heap.size 2) g us zs' fs cs vU vA' vF vC W' := by
  have hs := h.ext.size
  have hc : ¬ col γ W.heap.size 2 c = 2 := by rw [col_old h.lt, h.c0]; decide
  exact ⟨h.cell.ext hx hc, own_colF h.o1 hx (by decide), ho, own_col h.o3 hx (by decide) (by decide), rep_col h.o4 hx (by decide), h.ext.then hx (fun k e hl => (h.colour (.inl (by decide)) (by decide) e hl (by decide)).2), by rw [col_old h.lt]; exact h.c0, h.cw, fun k hk => by rw [col_old (by omega)]; exact h.low k hk⟩
/-- files appended, or put in order; the cell is written behind it -/
theorem TD.app3 (h : TD w0 c γ g us zs fs cs vU vA vF vC W) (hx : Ext (fun k => col γ W.heap.size 3 k = 3) W W') (ho : OwnO tFile (fun k => col γ W.heap.size 3 k = 5) 28 W' vF' fs' (fun k => col γ W.heap.size 3 k = 3)) {W2 : World} (hp : Put W' W2 c 24 [i64 g, vF']) : TD w0 c (col γ W.heap.size 3) g us zs fs' cs vU vA vF' vC W2 := by
  have hs := h.ext.size
  have hs2 := hx.size
  have hl := h.lt
  have hc : ¬ col γ W.heap.size 3 c = 3 := by rw [col_old h.lt, h.c0]; decide
  have n : ∀ {θ : Nat} {k : Nat}, θ ≠ 0 → col γ W.heap.size 3 k = θ → ¬ k = c := fun {θ k} h0 hk e => by rw [e, col_old h.lt, h.c0] at hk; exact h0 hk.symm
  exact ⟨hp.blk, OwnO.ext (own_colF h.o1 hx (by decide)) hp.ext (fun k hk _ e => n (by decide) hk e) (fun _ h _ => h.elim), OwnO.ext (own_col h.o2 hx (by decide) (by decide)) hp.ext (fun k hk _ e => n (by decide) hk e) (fun k hk _ e => n (by decide) hk e), OwnO.ext ho hp.ext (fun k hk _ e => n (by decide) hk e) (fun k hk _ e => n (by decide) hk e), (Sl tree.tChange).ext (rep_col h.o4 hx (by decide)) hp.ext (fun k hk _ e => n (by decide) hk e),
    (h.ext.then hx (fun k e hl => (h.colour (.inl (by decide)) (by decide) e hl (by decide)).2)).then hp.ext (fun k e _ => by have e : k = c := e; rw [e]; exact h.cw), by rw [col_old h.lt]; exact h.c0, h.cw, fun k hk => by rw [col_old (by omega)]; exact h.low k hk⟩
theorem TD.sort (h : TD w0 c γ g us zs fs cs vU vA vF vC W) (hx : Ext (fun k => γ k = 3 ∧ k < W.heap.size) W W') (ho : OwnO tFile (fun k => γ k = 5 ∧ k < W.heap.size) 28 W' vF fs' (fun k => γ k = 3 ∧ k < W.heap.size)) : TD w0 c (col γ W.heap.size 0) g us zs fs' cs vU vA vF vC W' := by
  have hs := h.ext.size
  have hx' : Ext (fun k => col γ W.heap.size 0 k = 3) W W' := hx.mono (fun k hk e => by show col _ _ _ _ = _; rw [col_old hk]; exact e.1)
  have hc : ¬ col γ W.heap.size 0 c = 3 := by rw [col_old h.lt, h.c0]; decide
  refine ⟨h.cell.ext hx' hc, own_colF h.o1 hx' (by decide), own_col h.o2 hx' (by decide) (by decide), ?_, rep_col h.o4 hx' (by decide), h.ext.then hx' (fun k e hl => ?_), by rw [col_old h.lt]; exact h.c0, h.cw, fun k hk => by rw [col_old (by omega)]; exact h.low k hk⟩
  · refine OwnO.mono ho (fun k hk _ => by show col _ _ _ _ = _; rw [col_old hk.2]; exact hk.1) (fun k hk hl => by show col _ _ _ _ = _; rw [col_old hk.2]; exact hk.1)
  · rw [col_old hl] at e
    rcases Nat.lt_or_ge k w0.heap.size with h2 | h2
    · rw [h.low k h2] at e; cases e
    · exact h2
/-- the number is written -/
theorem TD.gen (h : TD w0 c γ g us zs fs cs vU vA vF vC W) (hp : Put W W' c 24 [i64 g', vF]) : TD w0 c γ g' us zs fs cs vU vA vF vC W' := by
  have n : ∀ {θ : Nat} {k : Nat}, θ ≠ 0 → γ k = θ → ¬ k = c := fun {θ k} h0 hk e => by rw [e, h.c0] at hk; exact h0 hk.symm
  exact ⟨hp.blk, OwnO.ext h.o1 hp.ext (fun k hk _ e => n (by decide) hk e) (fun _ h _ => h.elim), OwnO.ext h.o2 hp.ext (fun k hk _ e => n (by decide) hk e) (fun k hk _ e => n (by decide) hk e), OwnO.ext h.o3 hp.ext (fun k hk _ e => n (by decide) hk e) (fun k hk _ e => n (by decide) hk e), (Sl tree.tChange).ext h.o4 hp.ext (fun k hk _ e => n (by decide) hk e),
    h.ext.then hp.ext (fun k e _ => by have e : k = c := e; rw [e]; exact h.cw), h.c0, h.cw, h.low⟩
end
end files
end Go.Proofs.YtpfehnopghffjaaGreatDoor
