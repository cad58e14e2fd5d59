import Derived.Test.YtpfehnopghffjaaGreatDoorT12
set_option linter.unusedVariables false
set_option linter.unusedSimpArgs false
set_option maxRecDepth 20000
namespace Go.Proofs.YtpfehnopghffjaaGreatDoor
open Go
section
variable {P : Program} {e : Env} {w : World} {x y : Operand} {T T' E : TypeId}
theorem DoV.copyST {l : Bs} {c o dn dc : Nat} {cs : List Value} (hx : look e x = some (.slice (some ⟨c, o, none⟩) dn dc)) (hB : Blk w c E cs) (hy : look e y = some (str l)) (hT : P.underlying T = some (.slice E)) (hs : sizeIs P E 1) (hfit : o + min l.length dn ≤ cs.length) :
  DoV P e (.call { callee := .builtin .copy, args := #[x, y], argTypes := #[T, T'] }) w (fun r w2 => r = i64 (min l.length dn : Nat) ∧ Put w w2 c E (cs.take o ++ (l.take (min l.length dn)).map u8 ++ cs.drop (o + min l.length dn))) := by
 intro w' hw ρ hρ op ho
 have hB' : Blk w' c E cs := hB.keep (by rw [hw.heap])
 have hmap : (bs l).data.toList.map (fun x => Value.int .u8 (x.toNat : Int)) = l.map u8 := by simp [bs]
 have hlen : ((l.take (min l.length dn)).map u8).length = min l.length dn := by simp
 have hst := run_storeCells_cells (P := P) c o ((l.take (min l.length dn)).map u8) 0 w' (fun j hj => by rw [Nat.add_zero, hB'.cell, List.getElem?_eq_getElem (by omega)]; rfl) (fun j hj => by rw [Nat.add_zero]; exact hB'.thawed _ (by omega)) (by intro v hv; obtain ⟨q, _, rfl⟩ := List.mem_map.1 hv; rfl)
 have hmin : Nat.min (bs l).size dn = min l.length dn := by rw [bs_size]
 refine ⟨i64 (min l.length dn : Nat), putCells w c o ((l.take (min l.length dn)).map u8), putCells w' c o ((l.take (min l.length dn)).map u8), run_copy_call ho ?_, hw.putCells c _ _, rfl, ?_⟩
 ·rw [hρ _ _ hx, hρ _ _ hy]
  simp [Builtin.copy_, run_underlying hT, Builtin.lenOf, Builtin.firstCells, hs.run, hmin]
  first | rw [hst, putCells_setCells] | rw [hmap, ← List.map_take, hst, putCells_setCells]
  rfl
 ·have hb2 := hB.put ((l.take (min l.length dn)).map u8) o
  rw [splice_eq _ _ _ (by rw [hlen]; exact hfit), hlen] at hb2
  exact ⟨hb2, putCells_ext _ _ _ _, putCells_size _ _ _ _⟩
end
namespace disk
def tActO : Ty Act := (tBool.pair tPutO).map (fun a => (a.flush, a.put))
theorem tActO.val {P : Nat → Prop} {w : World} {v : Value} {a : Act} (h : tActO.rep P w v a) : ∃ u, v = .agg #[.bool a.flush, i64 a.put.sector, u] ∧ tOwnB.rep P w u a.put.data ∧ -9223372036854775808 ≤ a.put.sector ∧ a.put.sector ≤ 9223372036854775807 := by
 obtain ⟨u, u', rfl, rfl, h2⟩ := h
 obtain ⟨x, rfl, h3, h4⟩ := tPutO.val h2
 exact ⟨x, rfl, h3, h4⟩
theorem tActO.mk {P : Nat → Prop} {w : World} {a : Act} {u : Value} (h : tOwnB.rep P w u a.put.data) (h1 : -9223372036854775808 ≤ a.put.sector ∧ a.put.sector ≤ 9223372036854775807) : tActO.rep P w (.agg #[.bool a.flush, i64 a.put.sector, u]) a :=
 ⟨.bool a.flush, .agg #[i64 a.put.sector, u], rfl, rfl, tPutO.mk h h1⟩
theorem tActO.weak {P : Nat → Prop} {w : World} {v : Value} {a : Act} (h : tActO.rep P w v a) : tAct.rep P w v a := by
 obtain ⟨u, u', rfl, h1, h2⟩ := h
 exact ⟨u, u', rfl, h1, tPutO.weak h2⟩
end disk
def col (γ : Nat → Nat) (n φ : Nat) : Nat → Nat := fun k => if k < n then γ k else φ
theorem col_old {γ : Nat → Nat} {n φ k : Nat} (h : k < n) : col γ n φ k = γ k := if_pos h
theorem col_new {γ : Nat → Nat} {n φ k : Nat} (h : n ≤ k) : col γ n φ k = φ := if_neg (by omega)
theorem own_col {α : Type} {t : Ty α} {E : TypeId} {w w2 : World} {v : Value} {xs : List α} {γ : Nat → Nat} {φ ψ θ q : Nat} (h : OwnO t (fun k => γ k = q) E w v xs (fun k => γ k = θ)) (hx : Ext (fun k => col γ w.heap.size φ k = ψ) w w2) (h1 : θ ≠ ψ) (h2 : q ≠ ψ) : OwnO t (fun k => col γ w.heap.size φ k = q) E w2 v xs (fun k => col γ w.heap.size φ k = θ) :=
 OwnO.mono (OwnO.ext (OwnO.mono h (Q' := fun k => γ k = q ∧ k < w.heap.size) (B' := fun k => γ k = θ ∧ k < w.heap.size) (fun k h hl => ⟨h, hl⟩) (fun k h hl => ⟨h, hl⟩)) hx (fun k hk _ e => by have e : col γ w.heap.size φ k = ψ := e; rw [col_old hk.2, hk.1] at e; exact h1 e) (fun k hk _ e => by have e : col γ w.heap.size φ k = ψ := e; rw [col_old hk.2, hk.1] at e; exact h2 e))
  (fun k hk _ => by show col _ _ _ _ = _; rw [col_old hk.2]; exact hk.1) (fun k hk _ => by show col _ _ _ _ = _; rw [col_old hk.2]; exact hk.1)
theorem own_col0 {α : Type} {t : Ty α} {E : TypeId} {w w2 : World} {v : Value} {xs : List α} {γ : Nat → Nat} {φ θ q : Nat} (h : OwnO t (fun k => γ k = q) E w v xs (fun k => γ k = θ)) (hx : Ext (fun _ => False) w w2) : OwnO t (fun k => col γ w.heap.size φ k = q) E w2 v xs (fun k => col γ w.heap.size φ k = θ) :=
 OwnO.mono (OwnO.ext0 (OwnO.mono h (Q' := fun k => γ k = q ∧ k < w.heap.size) (B' := fun k => γ k = θ ∧ k < w.heap.size) (fun k h hl => ⟨h, hl⟩) (fun k h hl => ⟨h, hl⟩)) hx)
  (fun k hk _ => by show col _ _ _ _ = _; rw [col_old hk.2]; exact hk.1) (fun k hk _ => by show col _ _ _ _ = _; rw [col_old hk.2]; exact hk.1)
theorem own_colF {α : Type} {t : Ty α} {E : TypeId} {w w2 : World} {v : Value} {xs : List α} {γ : Nat → Nat} {φ ψ θ : Nat} (h : OwnO t (fun _ => False) E w v xs (fun k => γ k = θ)) (hx : Ext (fun k => col γ w.heap.size φ k = ψ) w w2) (h1 : θ ≠ ψ) : OwnO t (fun _ => False) E w2 v xs (fun k => col γ w.heap.size φ k = θ) :=
 OwnO.mono (OwnO.ext (OwnO.mono h (Q' := fun _ => False) (B' := fun k => γ k = θ ∧ k < w.heap.size) (fun _ h _ => h) (fun k h hl => ⟨h, hl⟩)) hx (fun k hk _ e => by have e : col γ w.heap.size φ k = ψ := e; rw [col_old hk.2, hk.1] at e; exact h1 e) (fun _ h _ => h.elim))
  (fun _ h _ => h) (fun k hk _ => by show col _ _ _ _ = _; rw [col_old hk.2]; exact hk.1)
theorem own_colF0 {α : Type} {t : Ty α} {E : TypeId} {w w2 : World} {v : Value} {xs : List α} {γ : Nat → Nat} {φ θ : Nat} (h : OwnO t (fun _ => False) E w v xs (fun k => γ k = θ)) (hx : Ext (fun _ => False) w w2) : OwnO t (fun _ => False) E w2 v xs (fun k => col γ w.heap.size φ k = θ) :=
 OwnO.mono (OwnO.ext0 (OwnO.mono h (Q' := fun _ => False) (B' := fun k => γ k = θ ∧ k < w.heap.size) (fun _ h _ => h) (fun k h hl => ⟨h, hl⟩)) hx)
  (fun _ h _ => h) (fun k hk _ => by show col _ _ _ _ = _; rw [col_old hk.2]; exact hk.1)
theorem own_pre {α : Type} {t : Ty α} {E : TypeId} {w : World} {v : Value} {xs : List α} {γ : Nat → Nat} {θ q : Nat} (h : OwnO t (fun k => γ k = q) E w v xs (fun k => γ k = θ)) : OwnO t (fun k => γ k = q ∧ k < w.heap.size) E w v xs (fun k => col γ w.heap.size θ k = θ) :=
 OwnO.mono h (fun k h hl => ⟨h, hl⟩) (fun k h hl => by show col _ _ _ _ = _; rw [col_old hl]; exact h)
theorem own_post {α : Type} {t : Ty α} {E : TypeId} {w w2 : World} {v : Value} {xs : List α} {γ : Nat → Nat} {θ q : Nat} (h : OwnO t (fun k => γ k = q ∧ k < w.heap.size) E w2 v xs (fun k => col γ w.heap.size θ k = θ)) : OwnO t (fun k => col γ w.heap.size θ k = q) E w2 v xs (fun k => col γ w.heap.size θ k = θ) :=
 OwnO.mono h (fun k h _ => by show col _ _ _ _ = _; rw [col_old h.2]; exact h.1) (fun _ h _ => h)
namespace files
open room
structure TD (w0 : World) (c : Nat) (γ : Nat → Nat) (g : Int) (us : List Piece) (zs : List disk.Act) (fs : List File) (cs : List Change) (vU vA vF vC : Value) (W : World) : Prop where
 cell : Blk W c 24 [i64 g, vF]
 o1 : OwnO tPiece (fun _ => False) 40 W vU us (fun k => γ k = 1)
 o2 : OwnO disk.tActO (fun k => γ k = 6) 78 W vA zs (fun k => γ k = 2)
 o3 : OwnO tFile (fun k => γ k = 5) 28 W vF fs (fun k => γ k = 3)
 o4 : (Sl tree.tChange).rep (fun k => γ k = 8) W vC cs
 ext : Ext (fun _ => False) w0 W
 c0 : γ c = 0
 cw : w0.heap.size ≤ c
 low : ∀ k, k < w0.heap.size → γ k = 5
theorem rep_col {α : Type} {t : Ty α} {w w2 : World} {v : Value} {x : α} {γ : Nat → Nat} {φ ψ θ : Nat} (h : t.rep (fun k => γ k = θ) w v x) (hx : Ext (fun k => col γ w.heap.size φ k = ψ) w w2) (h1 : θ ≠ ψ) : t.rep (fun k => col γ w.heap.size φ k = θ) w2 v x :=
 t.mono (t.ext (t.mono h (P' := fun k => γ k = θ ∧ k < w.heap.size) (fun k h hl => ⟨h, hl⟩)) hx (fun k hk _ e => by have e : col γ w.heap.size φ k = ψ := e; rw [col_old hk.2, hk.1] at e; exact h1 e)) (fun k hk _ => by show col _ _ _ _ = _; rw [col_old hk.2]; exact hk.1)
theorem rep_col0 {α : Type} {t : Ty α} {w w2 : World} {v : Value} {x : α} {γ : Nat → Nat} {φ θ : Nat} (h : t.rep (fun k => γ k = θ) w v x) (hx : Ext (fun _ => False) w w2) : t.rep (fun k => col γ w.heap.size φ k = θ) w2 v x :=
 t.mono (t.ext0 (t.mono h (P' := fun k => γ k = θ ∧ k < w.heap.size) (fun k h hl => ⟨h, hl⟩)) hx) (fun k hk _ => by show col _ _ _ _ = _; rw [col_old hk.2]; exact hk.1)
structure TI (γ : Nat → Nat) (c : Nat) (ch : Change) (vS : Value) (ss : List Int) (W : World) : Prop where
 b : Blk W c 80 [str ch.key, str ch.value, .bool ch.gone]
 g0 : γ c = 0
 s : (Sl tInt).rep (fun k => γ k = 4) W vS ss
theorem TI.quiet {γ : Nat → Nat} {c : Nat} {ch : Change} {vS : Value} {ss : List Int} {W W' : World} (h : TI γ c ch vS ss W) (hx : Ext (fun _ => False) W W') (φ : Nat) : TI (col γ W.heap.size φ) c ch vS ss W' := ⟨h.b.ext hx (fun x => x), by rw [col_old h.b.lt]; exact h.g0, rep_col0 h.s hx⟩
theorem TI.app {γ : Nat → Nat} {c : Nat} {ch : Change} {vS : Value} {ss : List Int} {W W' : World} (h : TI γ c ch vS ss W) {φ ψ : Nat} (hx : Ext (fun k => col γ W.heap.size φ k = ψ) W W') (h0 : 0 ≠ ψ) (h4 : 4 ≠ ψ) : TI (col γ W.heap.size φ) c ch vS ss W' := ⟨h.b.ext hx (fun e => by have e : col γ W.heap.size φ c = ψ := e; rw [col_old h.b.lt, h.g0] at e; exact h0 e), by rw [col_old h.b.lt]; exact h.g0, rep_col h.s hx h4⟩
section
variable {w0 W W' : World} {c : Nat} {γ : Nat → Nat} {g g' : Int} {us us' : List Piece} {zs zs' : List disk.Act} {fs fs' : List File} {cs : List Change} {vU vA vF vU' vA' vF' vC : Value}
theorem TD.nc {θ : Nat} (h : TD w0 c γ g us zs fs cs vU vA vF vC W) (h0 : 0 ≠ θ) (φ : Nat) : ¬ col γ W.heap.size φ c = θ := by rw [col_old h.cell.lt, h.c0]; exact h0
theorem TD.lt (h : TD w0 c γ g us zs fs cs vU vA vF vC W) : c < W.heap.size := h.cell.lt
theorem TD.quiet (h : TD w0 c γ g us zs fs cs vU vA vF vC W) (hx : Ext (fun _ => False) W W') (φ : Nat) : TD w0 c (col γ W.heap.size φ) g us zs fs cs vU vA vF vC W' := by
 have hs := h.ext.size
 exact ⟨h.cell.ext hx (fun x => x), own_colF0 h.o1 hx, own_col0 h.o2 hx, own_col0 h.o3 hx, rep_col0 h.o4 hx, h.ext.trans hx, by rw [col_old h.lt]; exact h.c0, h.cw, fun k hk => by rw [col_old (by omega)]; exact h.low k hk⟩
theorem TD.colour (h : TD w0 c γ g us zs fs cs vU vA vF vC W) {k ψ : Nat} (hψ : ψ ≠ 5 ∨ w0.heap.size ≤ k) (h0 : ψ ≠ 0) (hk : col γ W.heap.size ψ k = ψ) (hl : k < W.heap.size) (h5 : ψ ≠ 5) : k ≠ c ∧ w0.heap.size ≤ k := by
 rw [col_old hl] at hk
 refine ⟨fun e => by rw [e, h.c0] at hk; exact h0 hk.symm, ?_⟩
 rcases Nat.lt_or_ge k w0.heap.size with h2 | h2
 ·rw [h.low k h2] at hk; exact absurd hk.symm h5
 ·exact h2
theorem TD.app1 (h : TD w0 c γ g us zs fs cs vU vA vF vC W) (hx : Ext (fun k => col γ W.heap.size 1 k = 1) W W') (ho : OwnO tPiece (fun _ => False) 40 W' vU' us' (fun k => col γ W.heap.size 1 k = 1)) : TD w0 c (col γ W.heap.size 1) g us' zs fs cs vU' vA vF vC W' := by
 have hs := h.ext.size
 have hc : ¬ col γ W.heap.size 1 c = 1 := by rw [col_old h.lt, h.c0]; decide
 exact ⟨h.cell.ext hx hc, ho, own_col h.o2 hx (by decide) (by decide), own_col h.o3 hx (by decide) (by decide), rep_col h.o4 hx (by decide), h.ext.then hx (fun k e hl => (h.colour (.inl (by decide)) (by decide) e hl (by decide)).2), by rw [col_old h.lt]; exact h.c0, h.cw, fun k hk => by rw [col_old (by omega)]; exact h.low k hk⟩
theorem TD.app2 (h : TD w0 c γ g us zs fs cs vU vA vF vC W) (hx : Ext (fun k => col γ W.heap.size 2 k = 2) W W') (ho : OwnO disk.tActO (fun k => col γ W.heap.size 2 k = 6) 78 W' vA' zs' (fun k => col γ W.heap.size 2 k = 2)) : TD w0 c (col γ W.heap.size 2) g us zs' fs cs vU vA' vF vC W' := by
 have hs := h.ext.size
 have hc : ¬ col γ W.heap.size 2 c = 2 := by rw [col_old h.lt, h.c0]; decide
 exact ⟨h.cell.ext hx hc, own_colF h.o1 hx (by decide), ho, own_col h.o3 hx (by decide) (by decide), rep_col h.o4 hx (by decide), h.ext.then hx (fun k e hl => (h.colour (.inl (by decide)) (by decide) e hl (by decide)).2), by rw [col_old h.lt]; exact h.c0, h.cw, fun k hk => by rw [col_old (by omega)]; exact h.low k hk⟩
theorem TD.app3 (h : TD w0 c γ g us zs fs cs vU vA vF vC W) (hx : Ext (fun k => col γ W.heap.size 3 k = 3) W W') (ho : OwnO tFile (fun k => col γ W.heap.size 3 k = 5) 28 W' vF' fs' (fun k => col γ W.heap.size 3 k = 3)) {W2 : World} (hp : Put W' W2 c 24 [i64 g, vF']) : TD w0 c (col γ W.heap.size 3) g us zs fs' cs vU vA vF' vC W2 := by
 have hs := h.ext.size
 have hs2 := hx.size
 have hl := h.lt
 have hc : ¬ col γ W.heap.size 3 c = 3 := by rw [col_old h.lt, h.c0]; decide
 have n : ∀ {θ : Nat} {k : Nat}, θ ≠ 0 → col γ W.heap.size 3 k = θ → ¬ k = c := fun {θ k} h0 hk e => by rw [e, col_old h.lt, h.c0] at hk; exact h0 hk.symm
 exact ⟨hp.blk, OwnO.ext (own_colF h.o1 hx (by decide)) hp.ext (fun k hk _ e => n (by decide) hk e) (fun _ h _ => h.elim), OwnO.ext (own_col h.o2 hx (by decide) (by decide)) hp.ext (fun k hk _ e => n (by decide) hk e) (fun k hk _ e => n (by decide) hk e), OwnO.ext ho hp.ext (fun k hk _ e => n (by decide) hk e) (fun k hk _ e => n (by decide) hk e), (Sl tree.tChange).ext (rep_col h.o4 hx (by decide)) hp.ext (fun k hk _ e => n (by decide) hk e),
  (h.ext.then hx (fun k e hl => (h.colour (.inl (by decide)) (by decide) e hl (by decide)).2)).then hp.ext (fun k e _ => by have e : k = c := e; rw [e]; exact h.cw), by rw [col_old h.lt]; exact h.c0, h.cw, fun k hk => by rw [col_old (by omega)]; exact h.low k hk⟩
theorem TD.sort (h : TD w0 c γ g us zs fs cs vU vA vF vC W) (hx : Ext (fun k => γ k = 3 ∧ k < W.heap.size) W W') (ho : OwnO tFile (fun k => γ k = 5 ∧ k < W.heap.size) 28 W' vF fs' (fun k => γ k = 3 ∧ k < W.heap.size)) : TD w0 c (col γ W.heap.size 0) g us zs fs' cs vU vA vF vC W' := by
 have hs := h.ext.size
 have hx' : Ext (fun k => col γ W.heap.size 0 k = 3) W W' := hx.mono (fun k hk e => by show col _ _ _ _ = _; rw [col_old hk]; exact e.1)
 have hc : ¬ col γ W.heap.size 0 c = 3 := by rw [col_old h.lt, h.c0]; decide
 refine ⟨h.cell.ext hx' hc, own_colF h.o1 hx' (by decide), own_col h.o2 hx' (by decide) (by decide), ?_, rep_col h.o4 hx' (by decide), h.ext.then hx' (fun k e hl => ?_), by rw [col_old h.lt]; exact h.c0, h.cw, fun k hk => by rw [col_old (by omega)]; exact h.low k hk⟩
 ·refine OwnO.mono ho (fun k hk _ => by show col _ _ _ _ = _; rw [col_old hk.2]; exact hk.1) (fun k hk hl => by show col _ _ _ _ = _; rw [col_old hk.2]; exact hk.1)
 ·rw [col_old hl] at e
  rcases Nat.lt_or_ge k w0.heap.size with h2 | h2
  ·rw [h.low k h2] at e; cases e
  ·exact h2
theorem TD.gen (h : TD w0 c γ g us zs fs cs vU vA vF vC W) (hp : Put W W' c 24 [i64 g', vF]) : TD w0 c γ g' us zs fs cs vU vA vF vC W' := by
 have n : ∀ {θ : Nat} {k : Nat}, θ ≠ 0 → γ k = θ → ¬ k = c := fun {θ k} h0 hk e => by rw [e, h.c0] at hk; exact h0 hk.symm
 exact ⟨hp.blk, OwnO.ext h.o1 hp.ext (fun k hk _ e => n (by decide) hk e) (fun _ h _ => h.elim), OwnO.ext h.o2 hp.ext (fun k hk _ e => n (by decide) hk e) (fun k hk _ e => n (by decide) hk e), OwnO.ext h.o3 hp.ext (fun k hk _ e => n (by decide) hk e) (fun k hk _ e => n (by decide) hk e), (Sl tree.tChange).ext h.o4 hp.ext (fun k hk _ e => n (by decide) hk e),
  h.ext.then hp.ext (fun k e _ => by have e : k = c := e; rw [e]; exact h.cw), h.c0, h.cw, h.low⟩
end
end files
end Go.Proofs.YtpfehnopghffjaaGreatDoor
namespace Go.Proofs.YtpfehnopghffjaaGreatDoor
open Go
open room files
namespace files
theorem turnF_m {d : Disk} {l : List Change} (h : ¬ (mountF d).2.2 = 0) : turnF d l = ([], (mountF d).2.2) := by unfold turnF; rw [if_pos h]
theorem turnF_e {d : Disk} {l : List Change} (h1 : (mountF d).2.2 = 0) (h : ¬ wrongF (mountF d).1 l = 0) : turnF d l = ([], wrongF (mountF d).1 l) := by unfold turnF; rw [if_neg (fun x => x h1), if_pos h]
theorem turnF_42 {d : Disk} {l : List Change} (h1 : (mountF d).2.2 = 0) (h2 : wrongF (mountF d).1 l = 0) (h : 32 < (keepN (mountF d).1 l).length + (freshN l).length) : turnF d l = ([], 42) := by unfold turnF; rw [if_neg (fun x => x h1), if_neg (fun x => x h2), if_pos h]
theorem turnF_p {d : Disk} {l : List Change} {e : Int} (h1 : (mountF d).2.2 = 0) (h2 : wrongF (mountF d).1 l = 0) (h3 : ¬ 32 < (keepN (mountF d).1 l).length + (freshN l).length) (h : (putsF d.count (freshN l) (keepN (mountF d).1 l) [] (allP (mountF d).1.fs)).2.2 = e) (he : ¬ e = 0) : turnF d l = ([], e) := by
 unfold turnF; rw [if_neg (fun x => x h1), if_neg (fun x => x h2), if_neg h3, if_pos (by rw [h]; exact he), h]
theorem turnF_n {d : Disk} {l : List Change} {fs : List File} {zs : List disk.Act} (h1 : (mountF d).2.2 = 0) (h2 : wrongF (mountF d).1 l = 0) (h3 : ¬ 32 < (keepN (mountF d).1 l).length + (freshN l).length) (h : putsF d.count (freshN l) (keepN (mountF d).1 l) [] (allP (mountF d).1.fs) = (fs, zs, 0)) (hw : ¬ (writeF (turnD d (mountF d).1 (mountF d).2.1 fs)).2 = 0) : turnF d l = ([], 42) := by
 rw [turnF_w h1 h2 h3 (by rw [h]), h, if_pos hw]
theorem turnF_0 {d : Disk} {l : List Change} {fs : List File} {zs : List disk.Act} (h1 : (mountF d).2.2 = 0) (h2 : wrongF (mountF d).1 l = 0) (h3 : ¬ 32 < (keepN (mountF d).1 l).length + (freshN l).length) (h : putsF d.count (freshN l) (keepN (mountF d).1 l) [] (allP (mountF d).1.fs) = (fs, zs, 0)) (hw : (writeF (turnD d (mountF d).1 (mountF d).2.1 fs)).2 = 0) : turnF d l = (actsN zs (writeF (turnD d (mountF d).1 (mountF d).2.1 fs)).1 (8 - (mountF d).2.1), 0) := by
 rw [turnF_w h1 h2 h3 (by rw [h]), h, if_neg (fun x => x hw)]
section
variable {c : Int} {L : List Change} {K : List File} {U : List Piece} {i : Nat} {fs : List File} {zs : List disk.Act} {us : List Piece}
theorem puts_30 (h : putsF c L K [] U = putsF c (L.drop i) fs zs us) (hi : i < L.length) (hn : 4096 < needF L[i].value.length) : (putsF c L K [] U).2.2 = 30 := by rw [h, List.drop_eq_getElem_cons hi, putsF, if_pos hn]
theorem puts_e (h : putsF c L K [] U = putsF c (L.drop i) fs zs us) (hi : i < L.length) (hn : ¬ 4096 < needF L[i].value.length) (he : ¬ takeE 80 c us (needF L[i].value.length) = 0) : (putsF c L K [] U).2.2 = takeE 80 c us (needF L[i].value.length) := by rw [h, List.drop_eq_getElem_cons hi, putsF, if_neg hn, if_pos he]
theorem puts_s (h : putsF c L K [] U = putsF c (L.drop i) fs zs us) (hi : i < L.length) (hn : ¬ 4096 < needF L[i].value.length) (he : takeE 80 c us (needF L[i].value.length) = 0) {p : List Piece} (hp : p = takeL 80 c us (needF L[i].value.length)) : putsF c L K [] U = putsF c (L.drop (i + 1)) (fs ++ [⟨L[i].key, L[i].value.length, p⟩]) (zs ++ actsV p L[i].value) (us ++ p) := by
 subst hp
 rw [h, List.drop_eq_getElem_cons hi, putsF, if_neg hn, if_neg (fun x => x he)]
theorem puts_z (h : putsF c L K [] U = putsF c (L.drop L.length) fs zs us) : putsF c L K [] U = (fs, zs, 0) := by rw [h, List.drop_length, putsF]
end
theorem own_imp {α : Type} {t : Ty α} {Q Q' B : Nat → Prop} {E : TypeId} {w : World} {v : Value} {xs : List α} (h : OwnO t Q E w v xs B) (hr : ∀ u x, t.rep Q w u x → t.rep Q' w u x) : OwnO t Q' E w v xs B := by
 rcases h with h | ⟨b, h1, h2, hl, h | ⟨cap, us, sp, e1, e2, e3, e4, e5⟩⟩
 ·exact .inl h
 ·exact .inr ⟨b, h1, h2, hl, .inl h⟩
 ·exact .inr ⟨b, h1, h2, hl, .inr ⟨cap, us, sp, e1, e2, e3.imp hr, e4, e5⟩⟩
theorem genTo_0 (d : Disk) (o : Nat) (g : Int) : genTo d o g 0 = g := rfl
theorem genTo_s (d : Disk) (o : Nat) (g : Int) (i : Nat) : genTo d o g (i + 1) = if getTo ((disk.readF d ((o + i : Nat) : Int)).take 8) 8 < 4611686018427387904 then max (genTo d o g i) (getTo ((disk.readF d ((o + i : Nat) : Int)).take 8) 8 : Nat) else genTo d o g i := rfl
theorem takeL_length (a c : Int) (l : List Piece) (m : Int) : (takeL a c l m).length ≤ 4096 := by
 by_cases h : takeE a c l m = 0
 ·rw [takeL_ok h]; exact Nat.le_trans (take_length _ _) (freeL_length _ _ _)
 ·rw [takeL_bad h]; exact Nat.zero_le _
theorem takeL_sects {c : Int} {l : List Piece} {m : Int} (h : takeE 80 c l m = 0) : ((sectE (takeL 80 c l m)).length : Int) ≤ m := by
 obtain ⟨h1, h2, h3, h4⟩ := take_in h
 obtain ⟨_, _, hc4, _⟩ := freeE_in h3
 obtain ⟨n, rfl⟩ : ∃ n : Nat, c = (n : Int) := ⟨c.toNat, by omega⟩
 have h' : takeE ((80 : Nat) : Int) (n : Int) l m = 0 := h
 obtain ⟨n', k1, k2, k3⟩ := takeL_runs h'
 have e : takeL 80 (n : Int) l m = takeL ((80 : Nat) : Int) (n : Int) l m := rfl
 unfold sectE
 split
 ·rename_i hck
  have := sect_total (may_pos (check_ok hck).2.2.2)
  rw [e] at this ⊢
  omega
 ·exact h1
theorem acts_step (p : List Piece) (v : Bs) {i : Nat} (hi : i < (sectE p).length) : (List.range (i + 1)).map (fun i => (⟨false, ⟨(sectE p).getD i 0, secV v i⟩⟩ : disk.Act)) = (List.range i).map (fun i => (⟨false, ⟨(sectE p).getD i 0, secV v i⟩⟩ : disk.Act)) ++ [⟨false, ⟨(sectE p)[i], secV v i⟩⟩] := by
 rw [List.range_succ, List.map_append, List.map_cons, List.map_nil, List.getD_eq_getElem?_getD, List.getElem?_eq_getElem hi]
 rfl
theorem acts_all (p : List Piece) (v : Bs) : (List.range (sectE p).length).map (fun i => (⟨false, ⟨(sectE p).getD i 0, secV v i⟩⟩ : disk.Act)) = actsV p v := by
 unfold actsV putA putsV
 rw [List.map_map]
 rfl
theorem dir_step (b : Bs) (o i : Nat) : (List.range (i + 1)).map (fun i => (⟨false, ⟨((o + i : Nat) : Int), (b.drop (i * 128)).take 128⟩⟩ : disk.Act)) = (List.range i).map (fun i => (⟨false, ⟨((o + i : Nat) : Int), (b.drop (i * 128)).take 128⟩⟩ : disk.Act)) ++ [⟨false, ⟨((o + i : Nat) : Int), (b.drop (i * 128)).take 128⟩⟩] := by
 rw [List.range_succ, List.map_append]
 rfl
theorem dir_all (b : Bs) (o : Nat) : (List.range 8).map (fun i => (⟨false, ⟨((o + i : Nat) : Int), (b.drop (i * 128)).take 128⟩⟩ : disk.Act)) = dirA b o := by
 unfold dirA putA dirP
 rw [List.map_map]
 rfl
theorem sec_cells (v : Bs) (i : Nat) : (List.replicate 128 (Value.int .u8 0)).take 0 ++ ((v.drop (i * 128)).take (min (v.drop (i * 128)).length 128)).map u8 ++ (List.replicate 128 (Value.int .u8 0)).drop (0 + min (v.drop (i * 128)).length 128) = (secV v i).map u8 ++ [] := by
 rw [List.append_nil, List.take_zero, List.nil_append, Nat.zero_add, List.drop_replicate]
 unfold secV
 rw [List.map_append, List.map_replicate, Nat.min_comm, ← List.take_take, List.take_length, List.length_take]
 try rfl
theorem names_ne {x : Dir} {l : List Change} {fs : List File} (hu : UpN x.fs) (hw : wrongF x l = 0) (h : fs.map (·.name) = (keepN x l).map (·.name) ++ (freshN l).map (·.key)) : fs.Pairwise (fun f g => f.name ≠ g.name) := by
 obtain ⟨_, _, hw3⟩ := wrongF_0 hw
 rw [← List.pairwise_map (f := File.name) (R := fun a b => a ≠ b), h]
 refine List.pairwise_append.2 ⟨?_, ?_, fun a ha b hb => ?_⟩
 ·rw [List.pairwise_map]; exact (up_ne hu).sublist List.filter_sublist
 ·rw [List.pairwise_map]; exact hw3.sublist List.filter_sublist
 ·obtain ⟨f, hf, rfl⟩ := List.mem_map.1 ha
  obtain ⟨c, hc, rfl⟩ := List.mem_map.1 hb
  have h3 := (List.mem_filter.1 hf).2
  intro e
  have : f.name ∈ l.map (·.key) := List.mem_map.2 ⟨c, (List.mem_filter.1 hc).1, e.symm⟩
  rw [decide_eq_true this] at h3
  cases h3
theorem sort_sortN {fs ys : List File} (hd : fs.Pairwise (fun f g => f.name ≠ g.name)) (hp : ys.Perm fs) (hs : ys.Pairwise (fun p q => Op.bytesLess q.name p.name = false)) : ys = sortN fs := by
 have hd2 := (hp.pairwise_iff (R := fun f g : File => f.name ≠ g.name) (fun h => Ne.symm h)).2 hd
 refine sortN_eq hd ?_ (fun g => hp.mem_iff)
 refine List.Pairwise.imp (fun {a b} h => ?_) (hs.and hd2)
 rcases bl_tri a.name b.name with h3 | h3 | h3
 ·exact h3
 ·exact absurd h3 h.2
 ·rw [h.1] at h3; cases h3
theorem allP_sort (l : List File) : (allP (sortN l)).length = (allP l).length := (sortN_perm.flatMap_right (fun f : File => f.ps)).length_eq
theorem keep_allP (x : Dir) (l : List Change) : (allP (keepN x l)).length ≤ (allP x.fs).length := (filter_flat _ _ x.fs).length_le
end files
attribute [local irreducible] readD slotB slotF mountF slotOK checkR disk.readF findTo findF writeF nameF sectE keepN freshN sortN genTo secV takeL takeE putsF allP
theorem write_fn {w : World} {n : Int} {a : Option Addr} {l c : Nat} : Fn Tryz.prog 91 [i64 n, .slice a l c] w (fun r w2 => r = .agg #[.bool false, i64 n, .slice a l c] ∧ Ext (fun _ => False) w w2) := by
 refine Fn.enter (fun w => Tryz.call91 _ w) Tryz.func91 rfl ?_
 refine .seq (.region ?_)
 refine .v rfl rfl (.alloc rfl rfl) ?_
 rintro _ w4 ⟨rfl, N4⟩
 refine .nil (.code (.seq (.region ?_)))
 refine .p rfl rfl (.mv rfl) (.p rfl rfl (.mv rfl) (.p rfl rfl (.build (cs := [i64 n, .slice a l c]) rfl (fun _ => by kernel_rfl)) (.p rfl rfl (.build (cs := [.bool false, i64 n, .slice a l c]) rfl (fun _ => by kernel_rfl)) (.s rfl (.storeAll (n := 3) rfl rfl rfl rfl rfl N4.blk rfl) ?_))))
 intro w5 P5
 refine .nil (.code ?_)
 refine .retR (.cell (n := 3) rfl rfl rfl rfl rfl (P5.blk.cells) .nil) ?_
 exact ⟨rfl, N4.ext.then P5.ext (by rintro k rfl _; exact Nat.le_refl _)⟩
set_option maxHeartbeats 4000000 in
theorem Turn_fn {w : World} {v vl : Value} {d : Disk} {l : List Change} (h : disk.tDisk.rep All w v d) (hl : (Sl tree.tChange).rep All w vl l) (hg : GOK w) : Fn Tryz.prog 32 [v, vl] w (fun r w2 => ∃ v' Q B, r = .tuple #[v', i64 (turnF d l).2] ∧ OwnO disk.tActO Q 78 w2 v' (turnF d l).1 B ∧ (∀ k, Q k → w.heap.size ≤ k ∧ ¬ B k) ∧ (∀ k, B k → w.heap.size ≤ k) ∧ Ext (fun _ => False) w w2) := by
 have h0 := h
 obtain ⟨u, u', rfl, hd1, hd2, hdc⟩ := disk.tDisk.val h
 obtain ⟨a1, k1, rfl, _⟩ := Sl.val hd1
 obtain ⟨a2, k2, rfl, _⟩ := Sl.val hd2
 obtain ⟨al, kl, rfl, hkl⟩ := Sl.val hl
 refine Fn.enter (fun w => Tryz.call32 _ w) Tryz.func32 rfl ?_
 refine .seq (.region ?_)
 refine .v rfl rfl (.box rfl) ?_
 rintro _ w2 ⟨rfl, N2⟩
 have B2 := N2.blk
 have X2 := N2.ext
 have z2 := N2.size
 refine .p rfl rfl (.as rfl) (.p rfl rfl (.as rfl) (.nil (.code (.seq (.keep [(2, _), (1, _)] ⟨rfl, rfl, trivial⟩ (.region ?_))))))
 refine .p rfl rfl (.loadA (n := 3) rfl rfl rfl rfl rfl (B2.ext (S := fun _ => False) (by repeat (first | exact Ext.refl _ | assumption | refine Ext.trans (by assumption) ?_)) (fun x => x)).cells) ?_
 refine .call (first := []) (captured := []) rfl rfl rfl rfl (mount_fn (disk.tDisk.ext0 h0 (by repeat (first | exact Ext.refl _ | assumption | refine Ext.trans (by assumption) ?_))) (hg.ext0 (by repeat (first | exact Ext.refl _ | assumption | refine Ext.trans (by assumption) ?_)))) ?_
 rintro _ w34 ⟨u34, rfl, R34, X34⟩
 have z34 := X34.size
 obtain ⟨af, kf, rfl, hf, hgen⟩ := tDir.val R34
 refine .p rfl rfl (.mv rfl) (.p rfl rfl (.extract rfl rfl) (.p rfl rfl (.extract rfl rfl) (.p rfl rfl (.extract rfl rfl) (.v rfl rfl (.alloc rfl rfl) ?_))))
 rintro _ wn6 ⟨rfl, N6⟩
 refine .s rfl (.storeAll (n := 2) rfl rfl rfl rfl rfl N6.blk rfl) ?_
 intro w6 P6
 have Y6 := N6.ext.then P6.ext (by rintro k rfl _; exact Nat.le_refl _)
 have zy6 := Y6.size
 have B6 := P6.blk
 clear P6 N6
 refine .p rfl rfl (.as rfl) (.p rfl rfl (.as rfl) (.nil (.code (.seq (.seq (.keep [(8, _), (7, _), (6, _), (2, _), (1, _)] ⟨rfl, rfl, rfl, rfl, rfl, trivial⟩ (.region ?_)))))))
 refine .p rfl rfl (.mv rfl) (.p rfl rfl (.ne rfl rfl) (.nil (.code (.keep [(39, _), (8, _), (7, _), (6, _), (2, _), (1, _)] ⟨rfl, rfl, rfl, rfl, rfl, rfl, trivial⟩ ?_))))
 refine .condD rfl (fun c39 => ?_) (fun c39 => ?_)
 ·refine .seq (.keep [(8, _)] ⟨rfl, trivial⟩ (.region ?_))
  refine .p rfl rfl (.mv rfl) (.p rfl rfl (.as rfl) (.p rfl rfl (.as rfl) (.nil (.code ?_))))
  refine .ret _ rfl ?_
  rw [turnF_m c39]
  exact ⟨_, fun _ => False, fun _ => False, rfl, OwnO.nil, fun _ h => h.elim, fun _ h => h.elim, (by repeat (first | exact Ext.refl _ | assumption | refine Ext.trans (by assumption) ?_))⟩
 ·have hm0 : (mountF d).2.2 = 0 := Decidable.not_not.1 c39
  obtain ⟨hck, h96, h32, hmay, hckr, hup⟩ := mount_may hm0
  refine .skip (.code (.seq (.keep [(7, _), (6, _), (2, _), (1, _)] ⟨rfl, rfl, rfl, rfl, trivial⟩ (.region ?_))))
  refine .p rfl rfl (.loadA (n := 2) rfl rfl rfl rfl rfl (B6.ext (S := fun _ => False) (by repeat (first | exact Ext.refl _ | assumption | refine Ext.trans (by assumption) ?_)) (fun x => x)).cells) ?_
  refine .p rfl rfl (.mv rfl) (.call (first := []) (captured := []) rfl rfl rfl rfl (named_fn (x := (mountF d).1) (l := l) (allOf (tDir.ext0 R34 (by repeat (first | exact Ext.refl _ | assumption | refine Ext.trans (by assumption) ?_)))) ((Sl tree.tChange).ext0 hl (by repeat (first | exact Ext.refl _ | assumption | refine Ext.trans (by assumption) ?_)))) ?_)
  rintro _ w44 ⟨mv, rfl, hnamed, hone, hcel, X44⟩
  have z44 := X44.size
  refine .p rfl rfl (.mv rfl) (.p rfl rfl (.extract rfl rfl) (.p rfl rfl (.extract rfl rfl) (.v rfl rfl (.alloc rfl rfl) ?_)))
  rintro _ wn9 ⟨rfl, N9⟩
  refine .s rfl (.store rfl rfl rfl rfl hone N9.blk (by simp [Value.cells])) ?_
  intro wK P9
  have Y9 := N9.ext.then P9.ext (by rintro k rfl _; exact Nat.le_refl _)
  have zy9 := Y9.size
  have B9 : Blk wK w44.heap.size 143 [mv] := P9.blk
  have hl9 := B9.lt
  clear P9 N9
  refine .p rfl rfl (.as rfl) (.nil (.code (.seq (.seq (.keep [(8, _), (9, _), (7, _), (6, _), (2, _), (1, _)] ⟨rfl, rfl, rfl, rfl, rfl, rfl, trivial⟩ (.region ?_))))))
  refine .p rfl rfl (.mv rfl) (.p rfl rfl (.ne rfl rfl) (.nil (.code (.keep [(48, _), (8, _), (9, _), (7, _), (6, _), (2, _), (1, _)] ⟨rfl, rfl, rfl, rfl, rfl, rfl, rfl, trivial⟩ ?_))))
  refine .condD rfl (fun c48 => ?_) (fun c48 => ?_)
  ·refine .seq (.keep [(8, _)] ⟨rfl, trivial⟩ (.region ?_))
   refine .p rfl rfl (.mv rfl) (.p rfl rfl (.as rfl) (.p rfl rfl (.as rfl) (.nil (.code ?_))))
   refine .ret _ rfl ?_
   rw [turnF_e hm0 c48]
   exact ⟨_, fun _ => False, fun _ => False, rfl, OwnO.nil, fun _ h => h.elim, fun _ h => h.elim, (by repeat (first | exact Ext.refl _ | assumption | refine Ext.trans (by assumption) ?_))⟩
  ·have hw0 : wrongF (mountF d).1 l = 0 := Decidable.not_not.1 c48
   obtain ⟨m, rfl, hmlo, hM⟩ := hnamed hw0
   refine .skip (.code (.seq (.keep [(9, _), (7, _), (6, _), (2, _), (1, _)] ⟨rfl, rfl, rfl, rfl, rfl, trivial⟩ (.region ?_))))
   refine .p rfl rfl (.fieldAddr rfl rfl rfl rfl) (.p rfl rfl (.load rfl rfl rfl ((B6.ext (S := fun _ => False) (by repeat (first | exact Ext.refl _ | assumption | refine Ext.trans (by assumption) ?_)) (fun x => x)).cell 0)) ?_)
   refine .p rfl rfl (.build (cs := [i64 (mountF d).1.gen, .slice none 0 0]) rfl (fun _ => by kernel_rfl)) (.v rfl rfl (.alloc rfl rfl) ?_)
   rintro _ wn10 ⟨rfl, N10⟩
   refine .s rfl (.storeAll (n := 2) rfl rfl rfl rfl rfl N10.blk rfl) ?_
   intro w10 P10
   have Y10 := N10.ext.then P10.ext (by rintro k rfl _; exact Nat.le_refl _)
   have zy10 := Y10.size
   have B10 := P10.blk
   clear P10 N10
   have hl10 := B10.lt
   refine .nil (.code (.seq (.keep [(10, _), (9, _), (7, _), (6, _), (2, _), (1, _)] ⟨rfl, rfl, rfl, rfl, rfl, rfl, trivial⟩ (.region ?_))))
   refine .p rfl rfl (.fieldAddr rfl rfl rfl rfl) (.p rfl rfl (.load rfl rfl rfl ((B6.ext (S := fun _ => False) (by repeat (first | exact Ext.refl _ | assumption | refine Ext.trans (by assumption) ?_)) (fun x => x)).cell 1)) ?_)
   refine .call (first := []) (captured := []) rfl rfl rfl rfl (cloneFiles_fn (R := fun k => k < wK.heap.size) (l := (mountF d).1.fs) ((Sl tFile).ext0 ((Sl tFile).mono ((Sl tFile).ext0 hf (Ext.trans Y6 (Ext.trans X44 Y9))) (fun k _ hk => hk)) Y10) (by have := mount_32 d; omega)) ?_
   rintro v55 w55 ⟨O55, X55⟩
   have z55 := X55.size
   refine .p rfl rfl (.makeFunc rfl rfl) (.call (first := []) (captured := []) rfl rfl rfl rfl (deleteFiles_fn (B := fun k => w10.heap.size ≤ k) (Q := fun k => k < wK.heap.size ∧ k < w10.heap.size) (f := 85) (cap := [.pointer (some ⟨w44.heap.size, 0, none⟩)]) (p := fun x => decide (x.name ∈ l.map (·.key))) O55 (fun k hk hb => by have hb : w10.heap.size ≤ k := hb; omega) (fun x u w' hu hx => turned1_fn hu (((B9.ext Y10 (fun x => x)).ext X55 (fun x => x)).ext hx (by omega)) ((((hM.ext Y9 (fun x => x)).ext Y10 (fun x => x)).ext X55 (fun x => x)).ext hx (by have := hM.lt; omega)))) ?_)
   rintro v57 w57 ⟨O57, X57⟩
   have XD : Ext (fun _ => False) w10 w57 := X55.then X57 (fun k h _ => h)
   have zD := XD.size
   have O57 : OwnO tFile (fun k => (k < wK.heap.size ∧ k < w10.heap.size) ∧ k < w55.heap.size) 28 w57 v57 (keepN (mountF d).1 l) (fun k => w10.heap.size ≤ k) := by unfold keepN; exact O57
   obtain ⟨a57, k57, rfl, hk57⟩ := OwnO.val O57
   clear X55 X57
   refine .p rfl rfl (.fieldAddr rfl rfl rfl rfl) (.s rfl (.store rfl rfl rfl rfl rfl (B10.ext XD (fun x => x)) (by simp)) ?_)
   intro w11 P11
   have z11 := P11.ext.size
   have XK : Ext (fun _ => False) wK w11 := (Y10.trans XD).then P11.ext (by rintro k rfl _; exact Nat.le_refl _)
   have O57 := OwnO.ext (OwnO.mono O57 (Q' := fun k => k < wK.heap.size) (B' := fun k => w10.heap.size ≤ k ∧ k < w11.heap.size) (fun k h _ => h.1.1) (fun k h hl => ⟨h, by omega⟩)) P11.ext (fun k hk _ e => by have e : k = wK.heap.size := e; omega) (fun k hk _ e => by have e : k = wK.heap.size := e; omega)
   have BN := P11.blk
   clear Y10 XD
   refine .nil (.code (.seq (.keep [(10, _), (7, _), (6, _), (2, _), (1, _)] ⟨rfl, rfl, rfl, rfl, rfl, trivial⟩ (.region ?_))))
   refine .p rfl rfl (.mv rfl) (.call (first := []) (captured := []) rfl rfl rfl rfl (cloneChanges_fn (R := fun _ => True) (l := l) (allOf ((Sl tree.tChange).ext0 hl (by repeat (first | exact Ext.refl _ | assumption | refine Ext.trans (by assumption) ?_)))) (by have := (wrongF_0 hw0).1; omega)) ?_)
   rintro v60 w60 ⟨O60, X60⟩
   refine .call (first := []) (captured := []) rfl rfl rfl rfl (deleteChanges_fn (B := fun k => w11.heap.size ≤ k) (f := 88) (cap := []) (p := fun x => x.gone) O60 (fun k hk hb => by have hb : w11.heap.size ≤ k := hb; have := hk.2; omega) (fun x u w' hu hx => gone2_fn hu)) ?_
   rintro v61 w61 ⟨O61, X61⟩
   have XF : Ext (fun _ => False) w11 w61 := X60.then X61 (fun k h _ => h)
   have zF := XF.size
   have O61 : OwnO tree.tChange (fun _ => False) 80 w61 v61 (freshN l) (fun k => w11.heap.size ≤ k) := by unfold freshN; exact own_imp O61 (fun u x h => by obtain ⟨rfl, h1, h2⟩ := tree.tChange.val h; exact tree.tChange.mk h1 h2)
   obtain ⟨aC, kC, rfl, hkC⟩ := OwnO.val O61
   clear X60 X61
   refine .p rfl rfl (.as rfl) (.nil (.code (.seq (.seq (.keep [(11, _), (10, _), (7, _), (6, _), (2, _)] ⟨rfl, rfl, rfl, rfl, rfl, trivial⟩ (.region ?_))))))
   refine .p rfl rfl (.fieldAddr rfl rfl rfl rfl) (.p rfl rfl (.load rfl rfl rfl ((BN.ext XF (fun x => x)).cell 1)) (.p rfl rfl (.len rfl rfl) (.p rfl rfl (.mv rfl) (.p rfl rfl (.len rfl rfl) (.p rfl rfl (.add rfl rfl (by have := mount_32 d; have := OwnO.lim O57; have := OwnO.lim O61; simp only [Lim] at *; omega)) (.p rfl rfl (.gt rfl rfl) (.nil (.code (.keep [(68, _), (11, _), (10, _), (7, _), (6, _), (2, _)] ⟨rfl, rfl, rfl, rfl, rfl, rfl, trivial⟩ ?_)))))))))
   refine .condD rfl (fun c68 => ?_) (fun c68 => ?_)
   ·refine .seq (.keep [] trivial (.region ?_))
    refine .p rfl rfl (.as rfl) (.p rfl rfl (.as rfl) (.nil (.code ?_)))
    refine .ret _ rfl ?_
    rw [turnF_42 hm0 hw0 (by omega)]
    exact ⟨_, fun _ => False, fun _ => False, rfl, OwnO.nil, fun _ h => h.elim, fun _ h => h.elim, (by repeat (first | exact Ext.refl _ | assumption | refine Ext.trans (by assumption) ?_))⟩
   ·have hc32 : ¬ 32 < (keepN (mountF d).1 l).length + (freshN l).length := by omega
    refine .skip (.code (.seq (.keep [(11, _), (10, _), (7, _), (6, _), (2, _)] ⟨rfl, rfl, rfl, rfl, rfl, trivial⟩ (.region ?_))))
    refine .p rfl rfl (.loadA (n := 2) rfl rfl rfl rfl rfl (B6.ext (S := fun _ => False) (by repeat (first | exact Ext.refl _ | assumption | refine Ext.trans (by assumption) ?_)) (fun x => x)).cells) ?_
    refine .call (first := []) (captured := []) rfl rfl rfl rfl (pieces_fn (x := (mountF d).1) (allOf (tDir.ext0 R34 (by repeat (first | exact Ext.refl _ | assumption | refine Ext.trans (by assumption) ?_)))) (small_dir hmay)) ?_
    rintro v70 w70 ⟨O70, X70⟩
    have z70 := X70.size
    have hpl : (allP (mountF d).1.fs).length ≤ 4096 := (check_ok hckr).2.2.1
    obtain ⟨γ, hγ⟩ : ∃ γ : Nat → Nat, γ = fun k => if k < wK.heap.size then 5 else if k = wK.heap.size then 0 else if k < w11.heap.size then 3 else if k < w61.heap.size then 8 else 1 := ⟨_, rfl⟩
    have D0 : TD wK wK.heap.size γ (mountF d).1.gen (allP (mountF d).1.fs) [] (keepN (mountF d).1 l) (freshN l) v70 (.slice none 0 0) (.slice a57 (keepN (mountF d).1 l).length k57) (.slice aC (freshN l).length kC) w70 := by
     refine ⟨(BN.ext XF (fun x => x)).ext X70 (fun x => x), OwnO.mono O70 (fun _ h _ => h) (fun k hk hl => ?_), OwnO.nil, OwnO.mono (OwnO.ext0 (OwnO.ext0 O57 XF) X70) (fun k hk hl => ?_) (fun k hk hl => ?_), (Sl tree.tChange).ext0 (OwnO.rep (OwnO.mono O61 (Q' := fun _ => False) (B' := fun k => w11.heap.size ≤ k ∧ k < w61.heap.size) (fun _ h _ => h) (fun k h hl => ⟨h, hl⟩)) (fun k hk hl => ?_) (fun _ h _ => h.elim)) X70, (XK.trans XF).trans X70, ?_, Nat.le_refl _, fun k hk => ?_⟩
     ·have hk : w61.heap.size ≤ k := hk; rw [hγ]; show (if _ then _ else _) = _; rw [if_neg (by omega), if_neg (by omega), if_neg (by omega), if_neg (by omega)]
     ·have hk : k < wK.heap.size := hk; rw [hγ]; show (if _ then _ else _) = _; rw [if_pos hk]
     ·rw [hγ]; show (if _ then _ else _) = _; rw [if_neg (by omega), if_neg (by omega), if_pos hk.2]
     ·rw [hγ]; show (if _ then _ else _) = _; rw [if_neg (by omega), if_neg (by omega), if_neg (by omega), if_pos hk.2]
     ·rw [hγ]; show (if _ then _ else _) = _; rw [if_neg (by omega), if_pos rfl]
     ·rw [hγ]; show (if _ then _ else _) = _; rw [if_pos hk]
    clear hγ
    refine .p rfl rfl (.as rfl) (.nil (.code (.seq (.keep [(12, _), (11, _), (10, _), (7, _), (2, _)] ⟨rfl, rfl, rfl, rfl, rfl, trivial⟩ (.region ?_)))))
    refine .p rfl rfl (.as rfl) (.nil (.code (.seq (.seq (.region ?_)))))
    refine .p rfl rfl (.mv rfl) (.p rfl rfl (.len rfl rfl) (.p rfl rfl (.mv rfl) (.nil (.code (.block (.keep [(73, _), (72, _), (71, _), (13, _), (12, _), (10, _), (7, _), (2, _)] ⟨rfl, rfl, rfl, rfl, rfl, rfl, rfl, rfl, trivial⟩ ?_))))))
    have B2K : Blk wK w.heap.size 44 [i64 d.count, .slice a1 d.data.length k1, .slice a2 d.waits.length k2] := B2.ext (S := fun _ => False) (by repeat (first | exact Ext.refl _ | assumption | refine Ext.trans (by assumption) ?_)) (fun x => x)
    have hDK : disk.tDisk.rep All wK (.agg #[i64 d.count, .slice a1 d.data.length k1, .slice a2 d.waits.length k2]) d := disk.tDisk.ext0 h0 (by repeat (first | exact Ext.refl _ | assumption | refine Ext.trans (by assumption) ?_))
    have hgK : GOK wK := hg.ext0 (by repeat (first | exact Ext.refl _ | assumption | refine Ext.trans (by assumption) ?_))
    have XwK : Ext (fun _ => False) w wK := (by repeat (first | exact Ext.refl _ | assumption | refine Ext.trans (by assumption) ?_))
    have zwK := XwK.size
    have hkp := keep_allP (mountF d).1 l
    clear XF XK Y9 X44 Y6 X34 X2
    refine .loop (S := Nat × (Nat → Nat) × List Piece × List disk.Act × List File × Value × Value × Value × World) (fun s => [(2, .pointer (some ⟨w.heap.size, 0, none⟩)), (7, i64 ((mountF d).2.1 : Nat)), (10, .pointer (some ⟨wK.heap.size, 0, none⟩)), (71, .slice aC (freshN l).length kC), (72, i64 (freshN l).length), (12, s.2.2.2.2.2.1), (13, s.2.2.2.2.2.2.1), (73, i64 s.1)]) (fun s => s.2.2.2.2.2.2.2.2) (fun s => s.1 ≤ (freshN l).length ∧ TD wK wK.heap.size s.2.1 (mountF d).1.gen s.2.2.1 s.2.2.2.1 s.2.2.2.2.1 (freshN l) s.2.2.2.2.2.1 s.2.2.2.2.2.2.1 s.2.2.2.2.2.2.2.1 (.slice aC (freshN l).length kC) s.2.2.2.2.2.2.2.2 ∧ putsF d.count (freshN l) (keepN (mountF d).1 l) [] (allP (mountF d).1.fs) = putsF d.count ((freshN l).drop s.1) s.2.2.2.2.1 s.2.2.2.1 s.2.2.1 ∧ s.2.2.2.2.1.length = (keepN (mountF d).1 l).length + s.1 ∧ s.2.2.1.length ≤ 4096 * (s.1 + 1) ∧ s.2.2.2.1.length ≤ 4096 * s.1 ∧ s.2.2.2.2.1.map (·.name) = (keepN (mountF d).1 l).map (·.name) ++ ((freshN l).take s.1).map (·.key) ∧ (allP s.2.2.2.2.1).length ≤ 4096 * (s.1 + 1)) (fun s => (freshN l).length - s.1) (0, γ, allP (mountF d).1.fs, [], keepN (mountF d).1 l, v70, .slice none 0 0, .slice a57 (keepN (mountF d).1 l).length k57, w70) ⟨rfl, rfl, rfl, rfl, rfl, rfl, rfl, rfl, trivial⟩ rfl ⟨Nat.zero_le _, D0, rfl, rfl, by show (allP (mountF d).1.fs).length ≤ 4096 * (0 + 1); omega, Nat.zero_le _, (List.append_nil _).symm, by show (allP (keepN (mountF d).1 l)).length ≤ 4096 * (0 + 1); omega⟩ ?_
    rintro ⟨i, γi, us, zs, fs, vU, vA, vF, wi⟩ J ⟨hi', Di, hP, hfl, hul, hzl, hnm, hpl2⟩ again
    simp only at hi' Di hP hfl hul hzl hnm hpl2
    have zi := Di.ext.size
    have hcl := Di.lt
    change G _ [(2, .pointer (some ⟨w.heap.size, 0, none⟩)), (7, i64 ((mountF d).2.1 : Nat)), (10, .pointer (some ⟨wK.heap.size, 0, none⟩)), (71, .slice aC (freshN l).length kC), (72, i64 (freshN l).length), (12, vU), (13, vA), (73, i64 i)] _ _ wi
    refine .seq (.region ?_)
    refine .p rfl rfl (.lt rfl rfl) (.nil (.code (.seq ?_)))
    refine .condD rfl (fun c74 => ?_) (fun c74 => ?_)
    ·have hi : i < (freshN l).length := by omega
     obtain ⟨bc, oc, qc, uec, ec, _, hcs, hre⟩ := Sl.at Di.o4 (List.getElem?_eq_getElem hi)
     cases ec
     obtain ⟨rfl, hkey, hval⟩ := tree.tChange.val hre
     have hval2 := hval
     simp only [Lim] at hval2
     refine .skip (.code (.seq (.block (.seq (.keep [(2, _), (7, _), (10, _), (71, _), (72, _), (12, _), (13, _), (73, _)] ⟨rfl, rfl, rfl, rfl, rfl, rfl, rfl, rfl, trivial⟩ (.region ?_))))))
     refine .p rfl rfl (.indexAddr (s := 3) rfl rfl rfl rfl (by omega)) (.p rfl rfl (.loadA (n := 3) rfl rfl rfl rfl rfl hcs) (.v rfl rfl (.alloc rfl rfl) ?_))
     rintro _ wn15 ⟨rfl, N15⟩
     refine .s rfl (.storeAll (n := 3) rfl rfl rfl rfl rfl N15.blk rfl) ?_
     intro w16 P15
     have Y15 := N15.ext.then P15.ext (by rintro k rfl _; exact Nat.le_refl _)
     have zy15 := Y15.size
     have B15 := P15.blk
     clear P15 N15
     have D1 := Di.quiet Y15 0
     have T1 : TI (col γi wi.heap.size 0) wi.heap.size (freshN l)[i] (.slice none 0 0) [] w16 := ⟨B15, col_new (Nat.le_refl _), Sl.nil⟩
     have hl15 := B15.lt
     generalize col γi wi.heap.size 0 = γ1 at D1 T1
     refine .nil (.code (.seq (.keep [(15, _), (2, _), (7, _), (10, _), (71, _), (72, _), (12, _), (13, _), (73, _)] ⟨rfl, rfl, rfl, rfl, rfl, rfl, rfl, rfl, rfl, trivial⟩ (.region ?_))))
     refine .p rfl rfl (.fieldAddr rfl rfl rfl rfl) (.p rfl rfl (.load rfl rfl rfl (T1.b.cell 1)) (.p rfl rfl (.lenS rfl rfl) (.call (first := []) (captured := []) rfl rfl rfl rfl (sectors_fn (by omega)) ?_)))
     rintro _ wz ⟨rfl, hz⟩
     subst wz
     refine .p rfl rfl (.as rfl) (.nil (.code (.seq (.seq (.keep [(16, _), (15, _), (2, _), (7, _), (10, _), (71, _), (72, _), (12, _), (13, _), (73, _)] ⟨rfl, rfl, rfl, rfl, rfl, rfl, rfl, rfl, rfl, rfl, trivial⟩ (.region ?_))))))
     refine .p rfl rfl (.mv rfl) (.p rfl rfl (.gt rfl rfl) (.nil (.code (.keep [(82, _), (16, _), (15, _), (2, _), (7, _), (10, _), (71, _), (72, _), (12, _), (13, _), (73, _)] ⟨rfl, rfl, rfl, rfl, rfl, rfl, rfl, rfl, rfl, rfl, rfl, trivial⟩ ?_))))
     refine .condD rfl (fun c82 => ?_) (fun c82 => ?_)
     ·refine .seq (.keep [] trivial (.region ?_))
      refine .p rfl rfl (.as rfl) (.p rfl rfl (.as rfl) (.nil (.code ?_)))
      refine .ret _ rfl ?_
      rw [turnF_p hm0 hw0 hc32 (puts_30 hP hi c82) (by decide)]
      exact ⟨_, fun _ => False, fun _ => False, rfl, OwnO.nil, fun _ h => h.elim, fun _ h => h.elim, XwK.trans D1.ext⟩
     ·have hn4 := c82
      refine .skip (.code (.seq (.keep [(16, _), (15, _), (2, _), (7, _), (10, _), (71, _), (72, _), (12, _), (13, _), (73, _)] ⟨rfl, rfl, rfl, rfl, rfl, rfl, rfl, rfl, rfl, rfl, trivial⟩ (.region ?_))))
      refine .p rfl rfl (.fieldAddr rfl rfl rfl rfl) (.p rfl rfl (.load rfl rfl rfl ((B2K.ext D1.ext (fun x => x)).cell 0)) (.p rfl rfl (.mv rfl) (.p rfl rfl (.mv rfl) (.call (first := []) (captured := []) rfl rfl rfl rfl (Take_fn (first := 80) (count := d.count) (many := needF ((freshN l)[i].value).length) (OwnO.rep D1.o1 (R := All) (fun _ _ _ => trivial) (fun _ h _ => h.elim))) ?_))))
      rintro _ w88 ⟨v88, rfl, O88, X88⟩
      have z88 := X88.size
      obtain ⟨p, hp⟩ : ∃ p, p = takeL 80 d.count us (needF ((freshN l)[i].value).length) := ⟨_, rfl⟩
      rw [← hp] at O88
      obtain ⟨ap, kp, rfl, hkp⟩ := OwnO.val O88
      have hpl3 : p.length ≤ 4096 := by rw [hp]; exact takeL_length _ _ _ _
      have D2 := D1.quiet X88 5
      have T2 := T1.quiet X88 5
      have hpr : (Sl tPiece).rep (fun k => col γ1 w16.heap.size 5 k = 5) w88 (.slice ap p.length kp) p := OwnO.rep O88 (fun k hk hl => col_new hk) (fun _ h _ => h.elim)
      generalize col γ1 w16.heap.size 5 = γ2 at D2 T2 hpr
      refine .p rfl rfl (.mv rfl) (.p rfl rfl (.extract rfl rfl) (.p rfl rfl (.extract rfl rfl) (.p rfl rfl (.as rfl) (.p rfl rfl (.as rfl) (.nil (.code (.seq (.seq (.keep [(18, _), (17, _), (15, _), (2, _), (7, _), (10, _), (71, _), (72, _), (12, _), (13, _), (73, _)] ⟨rfl, rfl, rfl, rfl, rfl, rfl, rfl, rfl, rfl, rfl, rfl, trivial⟩ (.region ?_))))))))))
      refine .p rfl rfl (.mv rfl) (.p rfl rfl (.ne rfl rfl) (.nil (.code (.keep [(92, _), (18, _), (17, _), (15, _), (2, _), (7, _), (10, _), (71, _), (72, _), (12, _), (13, _), (73, _)] ⟨rfl, rfl, rfl, rfl, rfl, rfl, rfl, rfl, rfl, rfl, rfl, rfl, trivial⟩ ?_))))
      refine .condD rfl (fun c92 => ?_) (fun c92 => ?_)
      ·refine .seq (.keep [(18, _)] ⟨rfl, trivial⟩ (.region ?_))
       refine .p rfl rfl (.mv rfl) (.p rfl rfl (.as rfl) (.p rfl rfl (.as rfl) (.nil (.code ?_))))
       refine .ret _ rfl ?_
       rw [turnF_p hm0 hw0 hc32 (puts_e hP hi c82 c92) c92]
       exact ⟨_, fun _ => False, fun _ => False, rfl, OwnO.nil, fun _ h => h.elim, fun _ h => h.elim, XwK.trans D2.ext⟩
      ·have he0 : takeE 80 d.count us (needF (freshN l)[i].value.length) = 0 := Decidable.not_not.1 c92
       have hsn := takeL_sects he0
       rw [← hp] at hsn
       unfold needF at hsn
       refine .skip (.code (.seq (.keep [(17, _), (15, _), (2, _), (7, _), (10, _), (71, _), (72, _), (12, _), (13, _), (73, _)] ⟨rfl, rfl, rfl, rfl, rfl, rfl, rfl, rfl, rfl, rfl, trivial⟩ (.region ?_))))
       refine .p rfl rfl (.mv rfl) (.p rfl rfl (.mv rfl) (.v rfl rfl (.appendLo (t := tPiece) (Q := fun _ => False) (B := fun k => col γ2 w88.heap.size 1 k = 1) (eb := 16) rfl (OwnO.mono D2.o1 (fun _ h _ => h) (fun k hk hl => by show col _ _ _ _ = _; rw [col_old hl]; exact hk)) (fun k hk => col_new hk) rfl (Sl.holds hpr (fun _ _ h => h)) rfl rfl rfl rfl rfl rfl rfl (by omega) (by simp only [Lim]; omega) (fun _ h _ => h.elim)) ?_))
       rintro v96 w96 ⟨O96, X96⟩
       have z96 := X96.size
       have D3 := D2.app1 X96 O96
       have T3 := T2.app X96 (by decide) (by decide)
       have hpr3 := rep_col hpr X96 (by decide)
       generalize col γ2 w88.heap.size 1 = γ3 at D3 T3 hpr3
       refine .p rfl rfl (.as rfl) (.nil (.code (.seq (.keep [(12, _), (17, _), (15, _), (2, _), (7, _), (10, _), (71, _), (72, _), (13, _), (73, _)] ⟨rfl, rfl, rfl, rfl, rfl, rfl, rfl, rfl, rfl, rfl, trivial⟩ (.region ?_)))))
       refine .p rfl rfl (.fieldAddr rfl rfl rfl rfl) (.p rfl rfl (.load rfl rfl rfl (D3.cell.cell 1)) (.p rfl rfl (.fieldAddr rfl rfl rfl rfl) (.p rfl rfl (.load rfl rfl rfl (T3.b.cell 0)) (.p rfl rfl (.fieldAddr rfl rfl rfl rfl) (.p rfl rfl (.load rfl rfl rfl (T3.b.cell 1)) (.p rfl rfl (.lenS rfl rfl) (.p rfl rfl (.mv rfl) (.p rfl rfl (.build (cs := [str (freshN l)[i].key, i64 (((freshN l)[i].value).length : Nat), .slice ap p.length kp]) rfl (fun _ => by kernel_rfl)) (.v rfl rfl (.lits rfl rfl (fun _ => by kernel_rfl)) ?_)))))))))
       rintro _ w106 ⟨rfl, N106⟩
       have z106 : w106.heap.size = w96.heap.size + 1 := N106.size
       have D4 := D3.quiet N106.ext 0
       have T4 := T3.quiet N106.ext 0
       have hpr4 := rep_col0 (φ := 0) hpr3 N106.ext
       have hel := (Sl tPiece).mono (P' := fun k => col γ3 w96.heap.size 0 k = 5 ∧ k < w106.heap.size) hpr3 (fun k h hl => ⟨by rw [col_old hl]; exact h, by omega⟩)
       generalize col γ3 w96.heap.size 0 = γ4 at D4 T4 hpr4 hel
       refine .v rfl rfl (.appendLo (t := tFile) (xs := fs) (ys := [⟨(freshN l)[i].key, (((freshN l)[i].value).length : Nat), p⟩]) (Q := fun k => γ4 k = 5 ∧ k < w106.heap.size) (B := fun k => col γ4 w106.heap.size 3 k = 3) (eb := 48) rfl (own_pre D4.o3) (fun k hk => col_new hk) rfl (.inr (New.holds (t := tFile) (us := [_]) (xs := [⟨(freshN l)[i].key, (((freshN l)[i].value).length : Nat), p⟩]) N106 (.cons (tFile.mk (x := ⟨(freshN l)[i].key, (((freshN l)[i].value).length : Nat), p⟩) hel hkey ⟨by show _ ≤ ((((freshN l)[i].value).length : Nat) : Int); omega, by show ((((freshN l)[i].value).length : Nat) : Int) ≤ _; omega⟩) .nil) rfl)) rfl rfl rfl rfl rfl rfl rfl (by simp; omega) (by simp [Lim]; omega) (fun k hk hl => by show ¬ col _ _ _ _ = _; rw [col_old hl, hk.1]; decide)) ?_
       rintro v107 w107 ⟨O107, X107⟩
       have z107 := X107.size
       obtain ⟨a107, k107, rfl, hk107⟩ := OwnO.val O107
       refine .p rfl rfl (.fieldAddr rfl rfl rfl rfl) (.s rfl (.store rfl rfl rfl rfl rfl (D4.cell.ext X107 (D4.nc (by decide) 3)) (by simp)) ?_)
       intro w24 P24
       have z24 := P24.ext.size
       have D5 := D4.app3 X107 (own_post O107) P24
       have hpr5 := (Sl tPiece).ext (rep_col hpr4 X107 (by decide)) P24.ext (fun k hk _ e => by have e : k = wK.heap.size := e; have hk : col γ4 w106.heap.size 3 k = 5 := hk; rw [e, col_old D4.lt, D4.c0] at hk; cases hk)
       have hT5b : Blk w24 wi.heap.size 80 [str (freshN l)[i].key, str ((freshN l)[i].value), .bool (freshN l)[i].gone] := (T4.app X107 (by decide) (by decide)).b.ext P24.ext (by omega)
       have hT5g : col γ4 w106.heap.size 3 wi.heap.size = 0 := (T4.app X107 (by decide) (by decide)).g0
       generalize col γ4 w106.heap.size 3 = γ5 at D5 hpr5 hT5g
       refine .nil (.code (.seq (.keep [(12, _), (17, _), (15, _), (2, _), (7, _), (10, _), (71, _), (72, _), (13, _), (73, _)] ⟨rfl, rfl, rfl, rfl, rfl, rfl, rfl, rfl, rfl, rfl, trivial⟩ (.region ?_))))
       refine .p rfl rfl (.mv rfl) (.call (first := []) (captured := []) rfl rfl rfl rfl (Sectors_fn (allOf hpr5)) ?_)
       rintro _ w111 ⟨v111, rfl, O111, X111⟩
       have z111 := X111.size
       have O111 : OwnO tInt (fun _ => False) 3 w111 v111 (sectE p) (fun k => w24.heap.size ≤ k) := by unfold sectE; exact O111
       obtain ⟨aS, kS, rfl, hkS⟩ := OwnO.val O111
       have hsl := sectE_length p
       have D6 := D5.quiet X111 4
       have T6 : TI (col γ5 w24.heap.size 4) wi.heap.size (freshN l)[i] (.slice aS (sectE p).length kS) (sectE p) w111 := ⟨hT5b.ext X111 (fun x => x), by rw [col_old hT5b.lt]; exact hT5g, OwnO.rep O111 (fun k hk hl => col_new hk) (fun _ h _ => h.elim)⟩
       generalize col γ5 w24.heap.size 4 = γ6 at D6 T6
       refine .p rfl rfl (.mv rfl) (.p rfl rfl (.extract rfl rfl) (.p rfl rfl (.extract rfl rfl) (.p rfl rfl (.as rfl) (.p rfl rfl (.as rfl) (.nil (.code (.seq (.keep [(19, _), (12, _), (15, _), (2, _), (7, _), (10, _), (71, _), (72, _), (13, _), (73, _)] ⟨rfl, rfl, rfl, rfl, rfl, rfl, rfl, rfl, rfl, rfl, trivial⟩ (.region ?_)))))))))
       refine .p rfl rfl (.mv rfl) (.p rfl rfl (.len rfl rfl) (.p rfl rfl (.mv rfl) (.nil (.code (.block (.keep [(116, _), (115, _), (114, _), (12, _), (15, _), (2, _), (7, _), (10, _), (71, _), (72, _), (13, _), (73, _)] ⟨rfl, rfl, rfl, rfl, rfl, rfl, rfl, rfl, rfl, rfl, rfl, rfl, trivial⟩ ?_))))))
       refine .loop (S := Nat × (Nat → Nat) × List disk.Act × Value × World) (fun s => [(2, .pointer (some ⟨w.heap.size, 0, none⟩)), (7, i64 ((mountF d).2.1 : Nat)), (10, .pointer (some ⟨wK.heap.size, 0, none⟩)), (71, .slice (some ⟨bc, oc, none⟩) (freshN l).length kC), (72, i64 (freshN l).length), (12, v96), (13, s.2.2.2.1), (73, i64 (i : Nat)), (15, .pointer (some ⟨wi.heap.size, 0, none⟩)), (114, .slice aS (sectE p).length kS), (115, i64 (sectE p).length), (116, i64 s.1)]) (fun s => s.2.2.2.2) (fun s => s.1 ≤ (sectE p).length ∧ TD wK wK.heap.size s.2.1 (mountF d).1.gen (us ++ p) s.2.2.1 (fs ++ [(⟨(freshN l)[i].key, ((freshN l)[i].value.length : Nat), p⟩ : File)]) (freshN l) v96 s.2.2.2.1 (.slice a107 (fs ++ [(⟨(freshN l)[i].key, ((freshN l)[i].value.length : Nat), p⟩ : File)]).length k107) (.slice (some ⟨bc, oc, none⟩) (freshN l).length kC) s.2.2.2.2 ∧ TI s.2.1 wi.heap.size (freshN l)[i] (.slice aS (sectE p).length kS) (sectE p) s.2.2.2.2 ∧ s.2.2.1 = zs ++ (List.range s.1).map (fun j => (⟨false, ⟨(sectE p).getD j 0, secV (freshN l)[i].value j⟩⟩ : disk.Act))) (fun s => (sectE p).length - s.1) (0, γ6, zs, vA, w111) ⟨rfl, rfl, rfl, rfl, rfl, rfl, rfl, rfl, rfl, rfl, rfl, rfl, trivial⟩ rfl ⟨Nat.zero_le _, D6, T6, (List.append_nil _).symm⟩ ?_
       rintro ⟨j, γj, zj, vj, wj⟩ J2 ⟨hj', Dj, Tj, hzj⟩ againj
       simp only at hj' Dj Tj hzj
       have zj0 := Dj.ext.size
       have hzjl : zj.length = zs.length + j := by rw [hzj]; simp
       change G _ [(2, .pointer (some ⟨w.heap.size, 0, none⟩)), (7, i64 ((mountF d).2.1 : Nat)), (10, .pointer (some ⟨wK.heap.size, 0, none⟩)), (71, .slice (some ⟨bc, oc, none⟩) (freshN l).length kC), (72, i64 (freshN l).length), (12, v96), (13, vj), (73, i64 (i : Nat)), (15, .pointer (some ⟨wi.heap.size, 0, none⟩)), (114, .slice aS (sectE p).length kS), (115, i64 (sectE p).length), (116, i64 j)] _ _ wj
       refine .seq (.region ?_)
       refine .p rfl rfl (.lt rfl rfl) (.nil (.code (.seq ?_)))
       refine .condD rfl (fun c117 => ?_) (fun c117 => ?_)
       ·have hj : j < (sectE p).length := by omega
        obtain ⟨bS, oS, eS, _, hci, hri⟩ := Sl.intAt Tj.s hj
        cases eS
        refine .skip (.code (.seq (.block (.seq (.keep [(2, _), (7, _), (10, _), (71, _), (72, _), (12, _), (13, _), (73, _), (15, _), (114, _), (115, _), (116, _)] ⟨rfl, rfl, rfl, rfl, rfl, rfl, rfl, rfl, rfl, rfl, rfl, rfl, trivial⟩ (.region ?_))))))
        refine .p rfl rfl (.mv rfl) (.p rfl rfl (.indexAddr1 rfl rfl rfl rfl (by omega)) (.p rfl rfl (.load rfl rfl rfl hci) (.p rfl rfl (.as rfl) (.p rfl rfl (.as rfl) (.nil (.code (.seq (.keep [(22, _), (21, _), (2, _), (7, _), (10, _), (71, _), (72, _), (12, _), (13, _), (73, _), (15, _), (114, _), (115, _), (116, _)] ⟨rfl, rfl, rfl, rfl, rfl, rfl, rfl, rfl, rfl, rfl, rfl, rfl, rfl, rfl, trivial⟩ (.region ?_)))))))))
        refine .v rfl rfl (.make (eb := 1) rfl rfl rfl rfl rfl rfl rfl rfl (by omega)) ?_
        rintro _ w121 ⟨rfl, N121⟩
        refine .p rfl rfl (.as rfl) (.nil (.code (.seq (.keep [(23, _), (22, _), (21, _), (2, _), (7, _), (10, _), (71, _), (72, _), (12, _), (13, _), (73, _), (15, _), (114, _), (115, _), (116, _)] ⟨rfl, rfl, rfl, rfl, rfl, rfl, rfl, rfl, rfl, rfl, rfl, rfl, rfl, rfl, rfl, trivial⟩ (.region ?_)))))
        refine .p rfl rfl (.mv rfl) (.p rfl rfl (.fieldAddr rfl rfl rfl rfl) (.p rfl rfl (.load rfl rfl rfl ((Tj.b.ext N121.ext (fun x => x)).cell 1)) (.p rfl rfl (.mv rfl) (.p rfl rfl (.cast (.mul rfl rfl (by omega)) (show _ = i64 ((j * 128 : Nat) : Int) by congr 1)) (.p rfl rfl (.cast (.cutSLo rfl rfl rfl (by omega)) (show _ = str (((freshN l)[i].value).drop (j * 128)) by rw [Int.toNat_natCast])) (.v rfl rfl (.copyST (l := ((freshN l)[i].value).drop (j * 128)) rfl N121.blk rfl rfl rfl (by simp; omega)) ?_))))))
        rintro _ w128 ⟨rfl, P128⟩
        have XZ : Ext (fun _ => False) wj w128 := N121.ext.then P128.ext (by rintro k rfl _; exact Nat.le_refl _)
        have zZ := XZ.size
        have Bd : Blk w128 wj.heap.size 5 ((secV ((freshN l)[i].value) j).map u8 ++ []) := by rw [← sec_cells]; exact P128.blk
        have D7 := Dj.quiet XZ 6
        have T7 := Tj.quiet XZ 6
        have hdat : OwnO tByte (fun _ => False) 5 w128 (.slice (some ⟨wj.heap.size, 0, none⟩) 128 128) (secV ((freshN l)[i].value) j) (fun k => col γj wj.heap.size 6 k = 6) := .inr ⟨wj.heap.size, col_new (Nat.le_refl _), Bd.lt, Own.ofBlk (sp := []) Bd (by rw [secV_length]; decide) (secV_length _ _).symm (by rw [secV_length]; rfl)⟩
        generalize col γj wj.heap.size 6 = γ7 at D7 T7 hdat
        refine .nil (.code (.keep [(23, _), (22, _), (2, _), (7, _), (10, _), (71, _), (72, _), (12, _), (13, _), (73, _), (15, _), (114, _), (115, _), (116, _)] ⟨rfl, rfl, rfl, rfl, rfl, rfl, rfl, rfl, rfl, rfl, rfl, rfl, rfl, rfl, trivial⟩ (.region ?_)))
        refine .p rfl rfl (.mv rfl) (.p rfl rfl (.mv rfl) (.p rfl rfl (.mv rfl) (.call (first := []) (captured := []) rfl rfl rfl rfl (write_fn (n := (sectE p)[j])) ?_)))
        rintro _ w132 ⟨rfl, X132⟩
        have z132 := X132.size
        refine .v rfl rfl (.lits rfl rfl (fun _ => by kernel_rfl)) ?_
        rintro _ w133 ⟨rfl, N133⟩
        have z133 : w133.heap.size = w132.heap.size + 1 := N133.size
        have XW : Ext (fun _ => False) w128 w133 := X132.trans N133.ext
        have D8 := D7.quiet XW 0
        have T8 := T7.quiet XW 0
        have hel := disk.tActO.mk (a := ⟨false, ⟨(sectE p)[j], secV ((freshN l)[i].value) j⟩⟩) (OwnO.mono (OwnO.ext0 (OwnO.mono hdat (fun _ h _ => h) (B' := fun k => γ7 k = 6 ∧ k < w128.heap.size) (fun k h hl => ⟨h, hl⟩)) X132) (fun _ h _ => h) (B' := fun k => col γ7 w128.heap.size 0 k = 6 ∧ k < w133.heap.size) (fun k h hl => ⟨by rw [col_old h.2]; exact h.1, by omega⟩)) hri
        generalize col γ7 w128.heap.size 0 = γ8 at D8 T8 hel
        refine .v rfl rfl (.appendLo (t := disk.tActO) (xs := zj) (ys := [⟨false, ⟨(sectE p)[j], secV ((freshN l)[i].value) j⟩⟩]) (Q := fun k => γ8 k = 6 ∧ k < w133.heap.size) (B := fun k => col γ8 w133.heap.size 2 k = 2) (eb := 40) rfl (own_pre D8.o2) (fun k hk => col_new hk) rfl (.inr (New.holds (t := disk.tActO) (us := [_]) (xs := [⟨false, ⟨(sectE p)[j], secV ((freshN l)[i].value) j⟩⟩]) N133 (.cons hel .nil) rfl)) rfl rfl rfl rfl rfl rfl rfl (by simp; omega) (by simp [Lim]; omega) (fun k hk hl => by show ¬ col _ _ _ _ = _; rw [col_old hl, hk.1]; decide)) ?_
        rintro v134 w134 ⟨O134, X134⟩
        have D9 := D8.app2 X134 (own_post O134)
        have T9 := T8.app X134 (by decide) (by decide)
        refine .p rfl rfl (.as rfl) (.nil (.blk (.code (.keep [(13, _), (2, _), (7, _), (10, _), (71, _), (72, _), (12, _), (73, _), (15, _), (114, _), (115, _), (116, _)] ⟨rfl, rfl, rfl, rfl, rfl, rfl, rfl, rfl, rfl, rfl, rfl, rfl, trivial⟩ (.region ?_)))))
        refine .p rfl rfl (.add rfl rfl (by omega)) (.p rfl rfl (.mv rfl) (.nil ?_))
        exact (againj (j + 1, col γ8 w133.heap.size 2, zj ++ [⟨false, ⟨(sectE p)[j], secV (freshN l)[i].value j⟩⟩], v134, w134) ⟨by show j + 1 ≤ _; omega, D9, T9, by show zj ++ _ = _; rw [acts_step p _ hj, hzj, List.append_assoc]⟩ (by show _ - (j + 1) < _ - j; omega)).of ⟨rfl, rfl, rfl, rfl, rfl, rfl, rfl, rfl, rfl, rfl, rfl, rfl, trivial⟩
       ·obtain rfl : j = (sectE p).length := by omega
        refine .exit rfl (.blk (.code (.keep [(2, _), (7, _), (10, _), (71, _), (72, _), (12, _), (13, _), (73, _)] ⟨rfl, rfl, rfl, rfl, rfl, rfl, rfl, rfl, trivial⟩ (.region ?_))))
        refine .p rfl rfl (.add rfl rfl (by omega)) (.p rfl rfl (.mv rfl) (.nil ?_))
        rw [acts_all] at hzj
        refine (again (i + 1, γj, us ++ p, zj, fs ++ [(⟨(freshN l)[i].key, ((freshN l)[i].value.length : Nat), p⟩ : File)], v96, vj, .slice a107 (fs ++ [(⟨(freshN l)[i].key, ((freshN l)[i].value.length : Nat), p⟩ : File)]).length k107, wj) ⟨by show i + 1 ≤ _; omega, Dj, ?_, ?_, ?_, ?_, ?_, ?_⟩ (by show _ - (i + 1) < _ - i; omega)).of ⟨rfl, rfl, rfl, rfl, rfl, rfl, rfl, rfl, trivial⟩
        ·show _ = putsF d.count ((freshN l).drop (i + 1)) (fs ++ [_]) zj (us ++ p)
         rw [hzj]
         exact puts_s hP hi c82 he0 hp
        ·show (fs ++ [_]).length = _ + (i + 1)
         rw [List.length_append, List.length_singleton]; omega
        ·show (us ++ p).length ≤ 4096 * (i + 1 + 1)
         rw [List.length_append]; omega
        ·show zj.length ≤ 4096 * (i + 1)
         rw [hzj, List.length_append]
         unfold actsV putA putsV
         simp only [List.length_map, List.length_range]
         omega
        ·show (fs ++ [_]).map File.name = _ ++ ((freshN l).take (i + 1)).map tree.Change.key
         rw [List.map_append, hnm, keysC_step hi, List.append_assoc]
         rfl
        ·show (allP (fs ++ [_])).length ≤ 4096 * (i + 1 + 1)
         rw [allP_snoc, List.length_append]
         show (allP fs).length + p.length ≤ _
         omega
    ·obtain rfl : i = (freshN l).length := by omega
     have hPz := puts_z hP
     have hdist := names_ne hup hw0 (by rw [hnm, List.take_length])
     have hat := (mountF_ok hm0).2.2.1
     have hat8 : (mountF d).2.1 ≤ 8 := by omega
     refine .exit rfl (.code (.seq (.keep [(2, _), (7, _), (10, _), (13, _)] ⟨rfl, rfl, rfl, rfl, trivial⟩ (.region ?_))))
     refine .p rfl rfl (.fieldAddr rfl rfl rfl rfl) (.p rfl rfl (.load rfl rfl rfl (Di.cell.cell 1)) (.call (first := []) (captured := []) rfl rfl rfl rfl (SortFiles_fn (xs := fs) (B := fun k => γi k = 3 ∧ k < wi.heap.size) (Q := fun k => γi k = 5 ∧ k < wi.heap.size) (OwnO.mono Di.o3 (fun k h hl => ⟨h, hl⟩) (fun k h hl => ⟨h, hl⟩)) (fun k hk hb => by have h1 := hk.1; rw [hb.1] at h1; cases h1)) ?_))
     rintro _ w139 ⟨rfl, ys, hys1, hys2, Oy, Xy⟩
     have zy := Xy.size
     obtain rfl := sort_sortN hdist hys1 hys2
     have DS := Di.sort Xy (OwnO.mono Oy (fun k h _ => h.1) (fun _ h _ => h))
     generalize col γi wi.heap.size 0 = γs at DS
     refine .nil (.code (.seq (.keep [(2, _), (7, _), (10, _), (13, _)] ⟨rfl, rfl, rfl, rfl, trivial⟩ (.region ?_))))
     refine .p rfl rfl (.mv rfl) (.p rfl rfl (.cast (.sub rfl rfl (by omega)) (show _ = i64 (((8 - (mountF d).2.1) : Nat) : Int) by congr 1; omega)) (.p rfl rfl (.as rfl) (.nil (.code (.seq (.seq (.keep [(24, _), (2, _), (10, _), (13, _)] ⟨rfl, rfl, rfl, rfl, trivial⟩ (.region ?_))))))))
     refine .p rfl rfl (.mv rfl) (.nil (.code (.block ?_)))
     refine .loop (S := Nat × (Nat → Nat) × World) (fun s => [(2, .pointer (some ⟨w.heap.size, 0, none⟩)), (10, .pointer (some ⟨wK.heap.size, 0, none⟩)), (13, vA), (24, i64 ((8 - (mountF d).2.1 : Nat) : Int)), (142, i64 s.1)]) (fun s => s.2.2) (fun s => s.1 ≤ 8 ∧ TD wK wK.heap.size s.2.1 (genTo d (8 - (mountF d).2.1) (mountF d).1.gen s.1) us zs (sortN fs) (freshN l) vU vA vF (.slice aC (freshN l).length kC) s.2.2) (fun s => 8 - s.1) (0, γs, w139) ⟨rfl, rfl, rfl, rfl, rfl, trivial⟩ rfl ⟨Nat.zero_le _, (by have h := DS; rw [← genTo_0 d (8 - (mountF d).2.1) (mountF d).1.gen] at h; exact h)⟩ ?_
     rintro ⟨i, γg, wg⟩ J ⟨hi', Dg⟩ again
     simp only at hi' Dg
     have zg := Dg.ext.size
     change G _ [(2, .pointer (some ⟨w.heap.size, 0, none⟩)), (10, .pointer (some ⟨wK.heap.size, 0, none⟩)), (13, vA), (24, i64 ((8 - (mountF d).2.1 : Nat) : Int)), (142, i64 i)] _ _ wg
     refine .seq (.region ?_)
     refine .p rfl rfl (.lt rfl rfl) (.nil (.code (.seq ?_)))
     refine .condD rfl (fun c143 => ?_) (fun c143 => ?_)
     ·have hi : i < 8 := by omega
      refine .skip (.code (.seq (.block (.seq (.keep [(2, _), (10, _), (13, _), (24, _), (142, _)] ⟨rfl, rfl, rfl, rfl, rfl, trivial⟩ (.region ?_))))))
      refine .p rfl rfl (.mv rfl) (.p rfl rfl (.as rfl) (.nil (.code (.seq (.keep [(25, _), (2, _), (10, _), (13, _), (24, _), (142, _)] ⟨rfl, rfl, rfl, rfl, rfl, rfl, trivial⟩ (.region ?_))))))
      refine .p rfl rfl (.loadA (n := 3) rfl rfl rfl rfl rfl (B2K.ext Dg.ext (fun x => x)).cells) (.p rfl rfl (.mv rfl) (.p rfl rfl (.mv rfl) (.p rfl rfl (.cast (.add rfl rfl (by omega)) (show _ = i64 ((8 - (mountF d).2.1 + i : Nat) : Int) by congr 1)) (.call (first := []) (captured := []) rfl rfl rfl rfl (Read0_fn (n := ((8 - (mountF d).2.1 + i : Nat) : Int)) (disk.tDisk.ext0 hDK Dg.ext) (disk.asked_of hck (by omega) (by omega))) ?_))))
      rintro _ w150 ⟨v150, rfl, R150, X150⟩
      have z150 := X150.size
      have hrl := fread_length hck (n := ((8 - (mountF d).2.1 + i : Nat) : Int)) (by omega) (by omega)
      obtain ⟨a26, k26, rfl, hk26⟩ := Sl.val R150
      obtain ⟨a155, c155, hv155, hc155, R155⟩ := Sl.cutE R150 0 8 (by omega) (by omega)
      rw [List.drop_zero] at R155
      obtain ⟨n8, hn8⟩ : ∃ n, n = getTo ((disk.readF d ((8 - (mountF d).2.1 + i : Nat) : Int)).take 8) 8 := ⟨_, rfl⟩
      have hn64 : n8 < 18446744073709551616 := by rw [hn8]; exact getTo_bd _ (by omega)
      refine .p rfl rfl (.mv rfl) (.p rfl rfl (.extract rfl rfl) (.p rfl rfl (.extract rfl rfl) (.p rfl rfl (.as rfl) (.p rfl rfl (.as rfl) (.nil (.code (.seq (.keep [(26, _), (2, _), (10, _), (13, _), (24, _), (142, _)] ⟨rfl, rfl, rfl, rfl, rfl, rfl, trivial⟩ (.region ?_)))))))))
      refine .p rfl rfl (.mv rfl) (.p rfl rfl (.cast (.cutHi (s := 1) rfl rfl rfl rfl (by omega)) (show cutV 1 a26 k26 0 (8 : Int).toNat = .slice a155 8 c155 from hv155)) (.call (first := []) (captured := []) rfl rfl rfl rfl (Get8_fn (n := n8) (by rw [hn8, getTo_take _ 8 8 (Nat.le_refl _)]) R155 (by omega)) ?_))
      rintro _ w156 ⟨rfl, X156⟩
      have z156 := X156.size
      have D2 := Dg.quiet (X150.trans X156) 0
      generalize col γg wg.heap.size 0 = γ2 at D2
      refine .p rfl rfl (.mv rfl) (.p rfl rfl (.extract rfl rfl) (.p rfl rfl (.extract rfl rfl) (.p rfl rfl (.as rfl) (.p rfl rfl (.as rfl) (.nil (.code (.seq (.keep [(28, _), (2, _), (10, _), (13, _), (24, _), (142, _)] ⟨rfl, rfl, rfl, rfl, rfl, rfl, trivial⟩ (.region ?_)))))))))
      refine .p rfl rfl (.mv rfl) (.p rfl rfl (.lt rfl rfl) (.nil (.code (.keep [(160, _), (28, _), (2, _), (10, _), (13, _), (24, _), (142, _)] ⟨rfl, rfl, rfl, rfl, rfl, rfl, rfl, trivial⟩ ?_))))
      refine .condD rfl (fun c160 => ?_) (fun c160 => ?_)
      ·refine .keep [(28, _), (2, _), (10, _), (13, _), (24, _), (142, _)] ⟨rfl, rfl, rfl, rfl, rfl, rfl, trivial⟩ (.region ?_)
       refine .p rfl rfl (.fieldAddr rfl rfl rfl rfl) (.p rfl rfl (.load rfl rfl rfl (D2.cell.cell 0)) (.p rfl rfl (.mv rfl) (.p rfl rfl (.convI rfl rfl rfl (by omega)) (.p rfl rfl (.max2 rfl rfl) (.p rfl rfl (.fieldAddr rfl rfl rfl rfl) (.s rfl (.store rfl rfl rfl rfl rfl D2.cell (by simp)) ?_))))))
       intro w42 P42
       have D3 := D2.gen (g' := max (genTo d (8 - (mountF d).2.1) (mountF d).1.gen i) (n8 : Nat)) P42
       refine .nil (.blk (.code (.keep [(2, _), (10, _), (13, _), (24, _), (142, _)] ⟨rfl, rfl, rfl, rfl, rfl, trivial⟩ (.region ?_))))
       refine .p rfl rfl (.add rfl rfl (by omega)) (.p rfl rfl (.mv rfl) (.nil ?_))
       refine (again (i + 1, γ2, w42) ⟨by show i + 1 ≤ 8; omega, ?_⟩ (by show 8 - (i + 1) < 8 - i; omega)).of ⟨rfl, rfl, rfl, rfl, rfl, trivial⟩
       rw [genTo_s, if_pos (by rw [← hn8]; omega), ← hn8]
       exact D3
      ·refine .skip (.blk (.code (.keep [(2, _), (10, _), (13, _), (24, _), (142, _)] ⟨rfl, rfl, rfl, rfl, rfl, trivial⟩ (.region ?_))))
       refine .p rfl rfl (.add rfl rfl (by omega)) (.p rfl rfl (.mv rfl) (.nil ?_))
       refine (again (i + 1, γ2, w156) ⟨by show i + 1 ≤ 8; omega, ?_⟩ (by show 8 - (i + 1) < 8 - i; omega)).of ⟨rfl, rfl, rfl, rfl, rfl, trivial⟩
       rw [genTo_s, if_neg (by rw [← hn8]; omega)]
       exact D2
     ·obtain rfl : i = 8 := by omega
      have hgb := genTo_bd d (8 - (mountF d).2.1) (mountF d).1.gen hmay.1.2 8
      have hgl := genTo_le d (8 - (mountF d).2.1) (mountF d).1.gen 8
      obtain ⟨gE, hgE⟩ : ∃ g, g = genTo d (8 - (mountF d).2.1) (mountF d).1.gen 8 := ⟨_, rfl⟩
      rw [← hgE] at Dg hgb hgl
      have hTD : turnD d (mountF d).1 (mountF d).2.1 fs = ⟨gE + 1, sortN fs⟩ := by unfold turnD genN; rw [← hgE]
      clear hgE
      have hg1 := hmay.1.1
      have hgr : -9223372036854775808 ≤ gE + 1 ∧ gE + 1 ≤ 9223372036854775807 := ⟨by omega, by omega⟩
      refine .exit rfl (.code (.seq (.keep [(10, _), (13, _), (24, _)] ⟨rfl, rfl, rfl, trivial⟩ (.region ?_))))
      refine .p rfl rfl (.fieldAddr rfl rfl rfl rfl) (.p rfl rfl (.load rfl rfl rfl (Dg.cell.cell 0)) (.p rfl rfl (.add rfl rfl (by omega)) (.p rfl rfl (.fieldAddr rfl rfl rfl rfl) (.s rfl (.store rfl rfl rfl rfl rfl Dg.cell (by simp)) ?_))))
      intro w44b P44b
      have D5 := Dg.gen (g' := (gE + 1)) P44b
      obtain ⟨aF, kF, rfl, hkF⟩ := OwnO.val D5.o3
      have hls : (sortN fs).length = fs.length := sortN_perm.length_eq
      refine .nil (.code (.seq (.keep [(10, _), (13, _), (24, _)] ⟨rfl, rfl, rfl, trivial⟩ (.region ?_))))
      refine .p rfl rfl (.loadA (n := 2) rfl rfl rfl rfl rfl D5.cell.cells) (.call (first := []) (captured := []) rfl rfl rfl rfl (FWrite_fn (x := (⟨gE + 1, sortN fs⟩ : Dir)) (tDir.mk (x := (⟨gE + 1, sortN fs⟩ : Dir)) (OwnO.rep (R := All) D5.o3 (fun _ _ _ => trivial) (fun _ _ _ => trivial)) hgr) (by show (allP (sortN fs)).length ≤ _; rw [allP_sort]; omega) (hgK.ext0 D5.ext)) ?_)
      rintro _ w174 ⟨v174, rfl, G174, X174⟩
      have z174 := X174.size
      obtain ⟨b, hbd⟩ : ∃ b, b = (writeF (⟨gE + 1, sortN fs⟩ : Dir)).1 := ⟨_, rfl⟩
      rw [← hbd] at G174
      have hb : tBytes.rep (fun k => col γg w44b.heap.size 4 k = 4) w174 v174 b := OwnO.rep G174 (fun k hk hl => col_new hk) (fun _ h _ => h.elim)
      have D6 := D5.quiet X174 4
      generalize col γg w44b.heap.size 4 = γ6 at D6 hb
      refine .p rfl rfl (.mv rfl) (.p rfl rfl (.extract rfl rfl) (.p rfl rfl (.extract rfl rfl) (.p rfl rfl (.as rfl) (.p rfl rfl (.as rfl) (.nil (.code (.seq (.seq (.keep [(8, _), (30, _), (13, _), (24, _)] ⟨rfl, rfl, rfl, rfl, trivial⟩ (.region ?_))))))))))
      refine .p rfl rfl (.mv rfl) (.p rfl rfl (.ne rfl rfl) (.nil (.code (.keep [(178, _), (30, _), (13, _), (24, _)] ⟨rfl, rfl, rfl, rfl, trivial⟩ ?_))))
      refine .condD rfl (fun c178 => ?_) (fun c178 => ?_)
      ·refine .seq (.keep [] trivial (.region ?_))
       refine .p rfl rfl (.as rfl) (.p rfl rfl (.as rfl) (.nil (.code ?_)))
       refine .ret _ rfl ?_
       rw [turnF_n hm0 hw0 hc32 hPz (by rw [hTD]; exact c178)]
       exact ⟨_, fun _ => False, fun _ => False, rfl, OwnO.nil, fun _ h => h.elim, fun _ h => h.elim, XwK.trans D6.ext⟩
      ·have hwr : (writeF (⟨gE + 1, sortN fs⟩ : Dir)).2 = 0 := Decidable.not_not.1 c178
       have hbl : b.length = 1024 := writeF_len (Prod.ext hbd.symm hwr)
       obtain ⟨ab, kb, rfl, hkb⟩ := Sl.val hb
       obtain ⟨aA, kA, rfl, hkA⟩ := OwnO.val D6.o2
       refine .skip (.code (.seq (.seq (.keep [(30, _), (13, _), (24, _)] ⟨rfl, rfl, rfl, trivial⟩ (.region ?_)))))
       refine .p rfl rfl (.mv rfl) (.p rfl rfl (.len rfl rfl) (.p rfl rfl (.gt rfl rfl) (.nil (.code (.keep [(181, _), (30, _), (13, _), (24, _)] ⟨rfl, rfl, rfl, rfl, trivial⟩ ?_)))))
       refine .meet (S := (Nat → Nat) × Value × World) (fun s => [(13, s.2.1), (24, i64 ((8 - (mountF d).2.1 : Nat) : Int)), (30, .slice ab b.length kb)]) (fun s => s.2.2) (fun s => TD wK wK.heap.size s.1 (gE + 1) us (zs ++ (if zs = [] then [] else [flushA])) (sortN fs) (freshN l) vU s.2.1 (.slice aF (sortN fs).length kF) (.slice aC (freshN l).length kC) s.2.2 ∧ tBytes.rep (fun k => s.1 k = 4) s.2.2 (.slice ab b.length kb) b) ?_ ?_
       ·rintro ⟨γm, vm, wm⟩ ⟨Dm, hbm⟩
        simp only at Dm hbm
        refine .code (.seq (.seq (.region ?_)))
        refine .p rfl rfl (.mv rfl) (.nil (.code (.block ?_)))
        refine .loop (S := Nat × (Nat → Nat) × List disk.Act × Value × World) (fun s => [(13, s.2.2.2.1), (24, i64 ((8 - (mountF d).2.1 : Nat) : Int)), (30, .slice ab b.length kb), (186, i64 s.1)]) (fun s => s.2.2.2.2) (fun s => s.1 ≤ 8 ∧ TD wK wK.heap.size s.2.1 (gE + 1) us s.2.2.1 (sortN fs) (freshN l) vU s.2.2.2.1 (.slice aF (sortN fs).length kF) (.slice aC (freshN l).length kC) s.2.2.2.2 ∧ tBytes.rep (fun k => s.2.1 k = 4) s.2.2.2.2 (.slice ab b.length kb) b ∧ s.2.2.1 = (zs ++ (if zs = [] then [] else [flushA])) ++ (List.range s.1).map (fun i => (⟨false, ⟨((8 - (mountF d).2.1 + i : Nat) : Int), (b.drop (i * 128)).take 128⟩⟩ : disk.Act))) (fun s => 8 - s.1) (0, γm, (zs ++ (if zs = [] then [] else [flushA])), vm, wm) ⟨rfl, rfl, rfl, rfl, trivial⟩ rfl ⟨Nat.zero_le _, Dm, hbm, (List.append_nil _).symm⟩ ?_
        rintro ⟨i, γh, zh, vh, wh⟩ J ⟨hi', Dh, hb, hzh⟩ again
        simp only at hi' Dh hb hzh
        have zh0 := Dh.ext.size
        have hzhl : zh.length ≤ zs.length + 9 := by rw [hzh]; simp only [List.length_append, List.length_map, List.length_range]; split <;> simp <;> omega
        change G _ [(13, vh), (24, i64 ((8 - (mountF d).2.1 : Nat) : Int)), (30, .slice ab b.length kb), (186, i64 i)] _ _ wh
        refine .seq (.region ?_)
        refine .p rfl rfl (.lt rfl rfl) (.nil (.code (.seq ?_)))
        refine .condD rfl (fun c187 => ?_) (fun c187 => ?_)
        ·have hi : i < 8 := by omega
         obtain ⟨a196, c196, hv196, hc196, R196⟩ := Sl.cutE hb (i * 128) b.length (by omega) (Nat.le_refl _)
         rw [List.take_length] at R196
         obtain ⟨a197, c197, hv197, hc197, R197⟩ := Sl.cutE R196 0 128 (by omega) (by omega)
         rw [List.drop_zero] at R197
         refine .skip (.code (.seq (.block (.seq (.keep [(13, _), (24, _), (30, _), (186, _)] ⟨rfl, rfl, rfl, rfl, trivial⟩ (.region ?_))))))
         refine .p rfl rfl (.mv rfl) (.p rfl rfl (.as rfl) (.nil (.code (.keep [(31, _), (13, _), (24, _), (30, _), (186, _)] ⟨rfl, rfl, rfl, rfl, rfl, trivial⟩ (.region ?_)))))
         refine .p rfl rfl (.mv rfl) (.p rfl rfl (.mv rfl) (.p rfl rfl (.mv rfl) (.p rfl rfl (.cast (.add rfl rfl (by omega)) (show _ = i64 ((8 - (mountF d).2.1 + i : Nat) : Int) by congr 1)) (.p rfl rfl (.mv rfl) (.p rfl rfl (.mv rfl) (.p rfl rfl (.cast (.mul rfl rfl (by omega)) (show _ = i64 ((i * 128 : Nat) : Int) by congr 1)) (.p rfl rfl (.cast (.cutLo (s := 1) rfl rfl rfl rfl (by omega)) (show cutV 1 ab kb ((i * 128 : Nat) : Int).toNat b.length = .slice a196 (b.length - i * 128) c196 by rw [Int.toNat_natCast]; exact hv196)) (.p rfl rfl (.cast (.cutHi (s := 1) rfl rfl rfl rfl (by omega)) (show cutV 1 a196 c196 0 (128 : Int).toNat = .slice a197 128 c197 from hv197)) (.call (first := []) (captured := []) rfl rfl rfl rfl (bClone_fn (allOf R197)) ?_)))))))))
         rintro v198 w198 ⟨G198, X198⟩
         have z198 := X198.size
         have D2 := Dh.quiet X198 6
         have hb2 := rep_col0 (φ := 6) hb X198
         have hdat : OwnO tByte (fun _ => False) 5 w198 v198 ((b.drop (i * 128)).take 128) (fun k => col γh wh.heap.size 6 k = 6) := OwnO.mono G198 (fun _ h _ => h) (fun k h _ => col_new h)
         obtain ⟨ac, kc, rfl, hkc⟩ := OwnO.val hdat
         generalize col γh wh.heap.size 6 = γ2 at D2 hb2 hdat
         refine .call (first := []) (captured := []) rfl rfl rfl rfl (write_fn (n := ((8 - (mountF d).2.1 + i : Nat) : Int))) ?_
         rintro _ w199 ⟨rfl, X199⟩
         have z199 := X199.size
         refine .v rfl rfl (.lits rfl rfl (fun _ => by kernel_rfl)) ?_
         rintro _ w200 ⟨rfl, N200⟩
         have z200 : w200.heap.size = w199.heap.size + 1 := N200.size
         have XW : Ext (fun _ => False) w198 w200 := X199.trans N200.ext
         have D3 := D2.quiet XW 0
         have hb3 := rep_col0 (φ := 0) hb2 XW
         have hel := disk.tActO.mk (a := ⟨false, ⟨((8 - (mountF d).2.1 + i : Nat) : Int), (b.drop (i * 128)).take 128⟩⟩) (OwnO.mono (OwnO.ext0 (OwnO.mono hdat (fun _ h _ => h) (B' := fun k => γ2 k = 6 ∧ k < w198.heap.size) (fun k h hl => ⟨h, hl⟩)) X199) (fun _ h _ => h) (B' := fun k => col γ2 w198.heap.size 0 k = 6 ∧ k < w200.heap.size) (fun k h hl => ⟨by rw [col_old h.2]; exact h.1, by omega⟩)) ⟨by show _ ≤ ((8 - (mountF d).2.1 + i : Nat) : Int); omega, by show ((8 - (mountF d).2.1 + i : Nat) : Int) ≤ _; omega⟩
         generalize col γ2 w198.heap.size 0 = γ3 at D3 hb3 hel
         refine .v rfl rfl (.appendLo (t := disk.tActO) (xs := zh) (ys := [⟨false, ⟨((8 - (mountF d).2.1 + i : Nat) : Int), (b.drop (i * 128)).take 128⟩⟩]) (Q := fun k => γ3 k = 6 ∧ k < w200.heap.size) (B := fun k => col γ3 w200.heap.size 2 k = 2) (eb := 40) rfl (own_pre D3.o2) (fun k hk => col_new hk) rfl (.inr (New.holds (t := disk.tActO) (us := [_]) (xs := [⟨false, ⟨((8 - (mountF d).2.1 + i : Nat) : Int), (b.drop (i * 128)).take 128⟩⟩]) N200 (.cons hel .nil) rfl)) rfl rfl rfl rfl rfl rfl rfl (by simp; omega) (by simp [Lim]; omega) (fun k hk hl => by show ¬ col _ _ _ _ = _; rw [col_old hl, hk.1]; decide)) ?_
         rintro v201 w201 ⟨O201, X201⟩
         have D4 := D3.app2 X201 (own_post O201)
         have hb4 := rep_col hb3 X201 (by decide)
         refine .p rfl rfl (.as rfl) (.nil (.blk (.code (.keep [(13, _), (24, _), (30, _), (186, _)] ⟨rfl, rfl, rfl, rfl, trivial⟩ (.region ?_)))))
         refine .p rfl rfl (.add rfl rfl (by omega)) (.p rfl rfl (.mv rfl) (.nil ?_))
         exact (again (i + 1, col γ3 w200.heap.size 2, zh ++ [⟨false, ⟨((8 - (mountF d).2.1 + i : Nat) : Int), (b.drop (i * 128)).take 128⟩⟩], v201, w201) ⟨by show i + 1 ≤ 8; omega, D4, hb4, by show zh ++ _ = _; rw [dir_step, hzh, List.append_assoc]⟩ (by show 8 - (i + 1) < 8 - i; omega)).of ⟨rfl, rfl, rfl, rfl, trivial⟩
        ·obtain rfl : i = 8 := by omega
         rw [dir_all] at hzh
         refine .exit rfl (.code (.seq (.keep [(13, _)] ⟨rfl, trivial⟩ (.region ?_))))
         refine .p rfl rfl (.mv rfl) (.p rfl rfl (.build (cs := [.bool true, i64 0, .slice none 0 0]) rfl (fun _ => by kernel_rfl)) (.v rfl rfl (.lits rfl rfl (fun _ => by kernel_rfl)) ?_))
         rintro _ w205 ⟨rfl, N205⟩
         have z205 := N205.size
         have D2 := Dh.quiet N205.ext 0
         generalize col γh wh.heap.size 0 = γ2 at D2
         refine .v rfl rfl (.appendLo (t := disk.tActO) (xs := zh) (ys := [flushA]) (Q := fun k => γ2 k = 6 ∧ k < w205.heap.size) (B := fun k => col γ2 w205.heap.size 2 k = 2) (eb := 40) rfl (own_pre D2.o2) (fun k hk => col_new hk) rfl (.inr (New.holds (t := disk.tActO) (us := [_]) (xs := [flushA]) N205 (.cons (disk.tActO.mk (a := flushA) OwnO.nil (by decide)) .nil) rfl)) rfl rfl rfl rfl rfl rfl rfl (by simp; omega) (by simp [Lim]; omega) (fun k hk hl => by show ¬ col _ _ _ _ = _; rw [col_old hl, hk.1]; decide)) ?_
         rintro v206 w206 ⟨O206, X206⟩
         have D3 := D2.app2 X206 (own_post O206)
         generalize col γ2 w205.heap.size 2 = γ3 at D3
         refine .p rfl rfl (.as rfl) (.p rfl rfl (.as rfl) (.nil (.code ?_)))
         refine .ret _ rfl ?_
         rw [turnF_0 hm0 hw0 hc32 hPz (by rw [hTD]; exact hwr), hTD, ← hbd]
         have hlo : ∀ k θ, γ3 k = θ → 5 ≠ θ → w.heap.size ≤ k := fun k θ hk h5 => by
          rcases Nat.lt_or_ge k wK.heap.size with h2 | h2
          ·rw [D3.low k h2] at hk; exact absurd hk h5
          ·omega
         refine ⟨_, fun k => γ3 k = 6, fun k => γ3 k = 2, rfl, ?_, fun k hk => ⟨hlo k _ hk (by decide), fun hb => by have hk : γ3 k = 6 := hk; have hb : γ3 k = 2 := hb; rw [hk] at hb; cases hb⟩, fun k hk => hlo k _ hk (by decide), XwK.trans D3.ext⟩
         have := D3.o2
         rw [hzh] at this
         exact this
       ·intro meet
        refine .condD rfl (fun c181 => ?_) (fun c181 => ?_)
        ·refine .keep [(30, _), (13, _), (24, _)] ⟨rfl, rfl, rfl, trivial⟩ (.region ?_)
         refine .p rfl rfl (.mv rfl) (.p rfl rfl (.build (cs := [.bool true, i64 0, .slice none 0 0]) rfl (fun _ => by kernel_rfl)) (.v rfl rfl (.lits rfl rfl (fun _ => by kernel_rfl)) ?_))
         rintro _ w184 ⟨rfl, N184⟩
         have z184 := N184.size
         have D7 := D6.quiet N184.ext 0
         have hb7 := rep_col0 (φ := 0) hb N184.ext
         generalize col γ6 w174.heap.size 0 = γ7 at D7 hb7
         refine .v rfl rfl (.appendLo (t := disk.tActO) (xs := zs) (ys := [flushA]) (Q := fun k => γ7 k = 6 ∧ k < w184.heap.size) (B := fun k => col γ7 w184.heap.size 2 k = 2) (eb := 40) rfl (own_pre D7.o2) (fun k hk => col_new hk) rfl (.inr (New.holds (t := disk.tActO) (us := [_]) (xs := [flushA]) N184 (.cons (disk.tActO.mk (a := flushA) OwnO.nil (by decide)) .nil) rfl)) rfl rfl rfl rfl rfl rfl rfl (by simp; omega) (by simp [Lim]; omega) (fun k hk hl => by show ¬ col _ _ _ _ = _; rw [col_old hl, hk.1]; decide)) ?_
         rintro v185 w185 ⟨O185, X185⟩
         have D8 := D7.app2 X185 (own_post O185)
         have hb8 := rep_col hb7 X185 (by decide)
         refine .p rfl rfl (.as rfl) (.nil ?_)
         exact (meet (col γ7 w184.heap.size 2, v185, w185) ⟨by rw [if_neg (by intro h; rw [h] at c181; exact absurd c181 (by decide))]; exact D8, hb8⟩).of ⟨rfl, rfl, rfl, trivial⟩
        ·refine .skip ?_
         have hz0 : zs = [] := List.length_eq_zero_iff.1 (by omega)
         exact (meet (γ6, .slice aA zs.length kA, w174) ⟨by rw [if_pos hz0, List.append_nil]; exact D6, hb⟩).of ⟨rfl, rfl, rfl, trivial⟩
end Go.Proofs.YtpfehnopghffjaaGreatDoor
