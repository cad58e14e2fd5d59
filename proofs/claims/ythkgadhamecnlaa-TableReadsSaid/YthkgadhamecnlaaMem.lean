
/-
  Memory: rows of cells, blocks of a call's own, values that read as data. No program in sight.
-/
import Derived.Test.YthkgadhamecnlaaVal
set_option linter.unusedVariables false
set_option linter.unusedSimpArgs false
namespace Go.Proofs.Ythkgadhamecnlaa
open Go

theorem add_none (b o n : Nat) : (⟨b, o, none⟩ : Addr).add n = ⟨b, o + n, none⟩ := by
  unfold Addr.add; split <;> simp_all

/-! ### rows of cells -/
def Cells (w : World) (b o : Nat) (cs : List Value) : Prop := ∀ j v, cs[j]? = some v → w.cell? ⟨b, o + j, none⟩ = some v
theorem Cells.nil (w : World) (b o : Nat) : Cells w b o [] := fun j v h => by simp at h
theorem Cells.ext {S : Nat → Prop} {w w' : World} {b o : Nat} {cs : List Value} (h : Cells w b o cs) (hx : Ext S w w') (hs : ¬ S b) : Cells w' b o cs :=
  fun j v hj => hx.cell (h j v hj) hs
theorem Cells.keep {w w' : World} {b o : Nat} {cs : List Value} (h : Cells w b o cs) (hb : w'.heap[b]? = w.heap[b]?) : Cells w' b o cs :=
  fun j v hj => (World.cell?_of_block (w := w) (a := ⟨b, o + j, none⟩) hb).trans (h j v hj)
theorem Cells.drop {w : World} {b o : Nat} {cs : List Value} (h : Cells w b o cs) (n : Nat) : Cells w b (o + n) (cs.drop n) := fun j v hj => by
  rw [List.getElem?_drop] at hj
  have := h (n + j) v hj
  rwa [show o + (n + j) = o + n + j by omega] at this
theorem Cells.take {w : World} {b o : Nat} {cs : List Value} (h : Cells w b o cs) (n : Nat) : Cells w b o (cs.take n) := fun j v hj => by
  rw [List.getElem?_take] at hj
  split at hj
  · exact h j v hj
  · cases hj
theorem Cells.append {w : World} {b o : Nat} {xs ys : List Value} (h : Cells w b o xs) (h' : Cells w b (o + xs.length) ys) : Cells w b o (xs ++ ys) := fun j v hj => by
  by_cases hlt : j < xs.length
  · exact h j v (by rwa [List.getElem?_append_left hlt] at hj)
  · rw [List.getElem?_append_right (by omega)] at hj
    have := h' _ v hj
    rwa [show o + xs.length + (j - xs.length) = o + j by omega] at this
theorem Cells.left {w : World} {b o : Nat} {xs ys : List Value} (h : Cells w b o (xs ++ ys)) : Cells w b o xs := by have := h.take xs.length; rwa [List.take_left] at this
theorem Cells.right {w : World} {b o : Nat} {xs ys : List Value} (h : Cells w b o (xs ++ ys)) : Cells w b (o + xs.length) ys := by have := h.drop xs.length; rwa [List.drop_left] at this
theorem Cells.load {w w' : World} {b o : Nat} {cs : List Value} (h : Cells w b o cs) (P : Program) (hx : Ext (fun _ => False) w w') : (loadCells ⟨b, o, none⟩ cs.length).run P w' = .ok cs.toArray w' :=
  run_loadCells_list w' ⟨b, o, none⟩ cs (fun j v hj => by rw [add_none]; exact h.ext hx (fun x => x) j v hj)

/-! ### blocks of the call's own -/
def Blk (w : World) (b : Nat) (E : TypeId) (cs : List Value) : Prop := ∃ fr : Nat × Nat, w.heap[b]? = some (.cells cs.toArray E fr) ∧ cs.length ≤ fr.1 ∨ (w.heap[b]? = some (.cells cs.toArray E fr) ∧ fr.2 ≤ fr.1)
theorem Blk.heap {w : World} {b : Nat} {E : TypeId} {cs : List Value} (h : Blk w b E cs) : ∃ fr : Nat × Nat, w.heap[b]? = some (.cells cs.toArray E fr) ∧ ∀ i, i < cs.length → ¬ (fr.1 ≤ i ∧ i < fr.2) := by
  obtain ⟨fr, ⟨h1, h2⟩ | ⟨h1, h2⟩⟩ := h
  · exact ⟨fr, h1, fun i hi => by omega⟩
  · exact ⟨fr, h1, fun i hi => by omega⟩
theorem Blk.lt {w : World} {b : Nat} {E : TypeId} {cs : List Value} (h : Blk w b E cs) : b < w.heap.size := by
  obtain ⟨fr, h1, _⟩ := h.heap
  exact (Array.getElem?_eq_some_iff.1 h1).1
theorem Blk.cell {w : World} {b : Nat} {E : TypeId} {cs : List Value} (h : Blk w b E cs) (i : Nat) : w.cell? ⟨b, i, none⟩ = cs[i]? := by
  obtain ⟨fr, h1, _⟩ := h.heap
  simp [World.cell?, h1]
theorem Blk.cells {w : World} {b : Nat} {E : TypeId} {cs : List Value} (h : Blk w b E cs) : Cells w b 0 cs := fun j v hj => by rw [h.cell, Nat.zero_add]; exact hj
theorem Blk.cellsAt {w : World} {b : Nat} {E : TypeId} {cs : List Value} (h : Blk w b E cs) (o : Nat) : Cells w b o (cs.drop o) := by have := h.cells.drop o; rwa [Nat.zero_add] at this
theorem Blk.thawed {w : World} {b : Nat} {E : TypeId} {cs : List Value} (h : Blk w b E cs) (i : Nat) (hi : i < cs.length) : w.frozen? ⟨b, i, none⟩ = false := by
  obtain ⟨fr, h1, h2⟩ := h.heap
  have := h2 i hi
  simp only [World.frozen?, h1]
  simp
  omega
theorem Blk.keep {w w' : World} {b : Nat} {E : TypeId} {cs : List Value} (h : Blk w b E cs) (hb : w'.heap[b]? = w.heap[b]?) : Blk w' b E cs := by
  unfold Blk at *; rw [hb]; exact h
theorem Blk.ext {S : Nat → Prop} {w w' : World} {b : Nat} {E : TypeId} {cs : List Value} (h : Blk w b E cs) (hx : Ext S w w') (hs : ¬ S b) : Blk w' b E cs := h.keep (hx.block b h.lt hs)
theorem Blk.alloc (w : World) (cs : List Value) (E : TypeId) : Blk (w.alloc (.cells cs.toArray E)) w.heap.size E cs :=
  ⟨(0, 0), .inr ⟨heap_alloc_new w _, Nat.le_refl _⟩⟩
theorem Blk.set {w : World} {b : Nat} {E : TypeId} {cs : List Value} (h : Blk w b E cs) (i : Nat) (u : Value) : Blk (w.setCell ⟨b, i, none⟩ u) b E (cs.set i u) := by
  obtain ⟨fr, h⟩ := h
  have hh : ∀ (h1 : w.heap[b]? = some (.cells cs.toArray E fr)), (w.setCell ⟨b, i, none⟩ u).heap[b]? = some (.cells (cs.set i u).toArray E fr) := fun h1 => by
    simp only [World.setCell, Array.getElem?_modify, if_true, h1]
    simp
  refine ⟨fr, ?_⟩
  rcases h with ⟨h1, h2⟩ | ⟨h1, h2⟩
  · exact .inl ⟨hh h1, by simpa using h2⟩
  · exact .inr ⟨hh h1, h2⟩

/-! storing -/
theorem storeVar_one {P : Program} {w : World} {b i : Nat} {E T : TypeId} {cs : List Value} (h : Blk w b E cs) (hi : i < cs.length) {u : Value} (hu : u.oneCell' = true) {ti : TypeInfo} (hT : P.info? T = some ti) (hs : ti.size = 1) :
    (storeVar T ⟨b, i, none⟩ u).run P w = .ok () (w.setCell ⟨b, i, none⟩ u) := by
  have hc : u.cells = #[u] := by cases u <;> simp_all [Value.cells, Value.oneCell']
  have hcell : ∃ x, w.cell? ⟨b, i, none⟩ = some x := ⟨cs[i], by rw [h.cell]; simp [hi]⟩
  obtain ⟨x, hx⟩ := hcell
  simp [storeVar, sizeOf, typeInfo, hT, hs, hc, storeCells, add_none, run_store, hu, hx, h.thawed i hi]
/-- cells written one behind the other -/
def putCells (w : World) (b : Nat) : Nat → List Value → World
  | _, [] => w
  | o, v :: r => putCells (w.setCell ⟨b, o, none⟩ v) b (o + 1) r
def splice (cs : List Value) : Nat → List Value → List Value
  | _, [] => cs
  | o, v :: r => splice (cs.set o v) (o + 1) r
theorem splice_length : ∀ (vs cs : List Value) (o : Nat), (splice cs o vs).length = cs.length
  | [], _, _ => rfl
  | v :: r, cs, o => by rw [splice, splice_length r]; simp
theorem Blk.put : ∀ (vs : List Value) {w : World} {b : Nat} {E : TypeId} {cs : List Value} (o : Nat), Blk w b E cs → Blk (putCells w b o vs) b E (splice cs o vs)
  | [], _, _, _, _, _, h => h
  | v :: r, _, _, _, _, o, h => Blk.put r (o + 1) (h.set o v)
theorem putCells_ext : ∀ (vs : List Value) (w : World) (b o : Nat), Ext (· = b) w (putCells w b o vs)
  | [], w, b, o => .refl w
  | v :: r, w, b, o => (Ext.setCell (S := (· = b)) w (p := ⟨b, o, none⟩) rfl v).trans (putCells_ext r _ b (o + 1))
theorem putCells_size : ∀ (vs : List Value) (w : World) (b o : Nat), (putCells w b o vs).heap.size = w.heap.size
  | [], _, _, _ => rfl
  | v :: r, w, b, o => by rw [putCells, putCells_size r]; simp
theorem run_putCells {P : Program} {b : Nat} {E : TypeId} : ∀ (vs : List Value) {w : World} {cs : List Value} (o i : Nat), Blk w b E cs → o + i + vs.length ≤ cs.length → (∀ v ∈ vs, v.oneCell' = true) →
    (storeCells ⟨b, o, none⟩ vs i).run P w = .ok () (putCells w b (o + i) vs)
  | [], _, _, _, _, _, _, _ => rfl
  | v :: r, w, cs, o, i, h, hl, h1 => by
    have hi : o + i < cs.length := by simp at hl; omega
    have hx : w.cell? ⟨b, o + i, none⟩ = some cs[o + i] := by rw [h.cell]; simp [hi]
    have ih := run_putCells (P := P) r o (i + 1) (h.set (o + i) v) (by simp at hl ⊢; omega) (fun u hu => h1 u (by simp [hu]))
    have hst : (store ⟨b, o + i, none⟩ v).run P w = .ok () (w.setCell ⟨b, o + i, none⟩ v) := by
      simp [run_store, h1 v (by simp), hx, h.thawed _ hi]
    simp only [storeCells, add_none, Sem.run_bind, hst, Result.andThen_ok, ih, putCells]
    rfl
theorem splice_eq : ∀ (vs cs : List Value) (o : Nat), o + vs.length ≤ cs.length → splice cs o vs = cs.take o ++ vs ++ cs.drop (o + vs.length)
  | [], cs, o, _ => by simp [splice]
  | v :: r, cs, o, h => by
    have hl : o < cs.length := by simp at h; omega
    rw [splice, splice_eq r _ _ (by simp at h ⊢; omega)]
    have h1 : (cs.set o v).take (o + 1) = cs.take o ++ [v] := by
      rw [List.take_succ_eq_append_getElem (by simpa using hl), List.take_set_of_le (Nat.le_refl _)]
      simp
    rw [h1, List.drop_set_of_lt (by omega)]
    simp only [List.length_cons, List.append_assoc, List.cons_append, List.nil_append]
    rw [show o + 1 + r.length = o + (r.length + 1) by omega]

/-! ### operations on memory -/
def sizeIs (P : Program) (T : TypeId) (n : Nat) : Prop := (P.info? T).map (·.size) = some n
theorem sizeIs.run {P : Program} {T : TypeId} {n : Nat} (h : sizeIs P T n) (w : World) : (sizeOf T).run P w = .ok n w := by
  unfold sizeIs at h
  cases hi : P.info? T with
  | none => simp [hi] at h
  | some i => simp [hi] at h; simp [sizeOf, typeInfo, hi, h]
def aggD : TypeDesc → Bool
  | .struct _ | .array _ _ => true
  | _ => false
theorem isAgg_run {P : Program} {T : TypeId} {d : TypeDesc} (h : P.underlying T = some d) (w : World) : (isAgg T).run P w = .ok (aggD d) w := by
  simp only [isAgg, Sem.run_bind, run_underlying h, Result.andThen_ok]
  cases d <;> rfl
section
variable {P : Program} {e : Env} {w : World} {x y z : Operand} {T T' : TypeId} {v u : Value}

theorem Ev.load {b o : Nat} {d : TypeDesc} (hx : look e x = some (.pointer (some ⟨b, o, none⟩))) (hT : P.underlying T = some d) (hd : aggD d = false) (hc : w.cell? ⟨b, o, none⟩ = some v) : Ev P e (.load T x) w v :=
  fun w' hw ρ hρ op ho => by
    have hc' := hw.cell hc (fun x => x)
    simp [execOp, ho, hρ _ _ hx, Instr.loadAt, Instr.sureAddr, loadVar, isAgg_run hT, hd, hc']
theorem Ev.loadA {b o n : Nat} {d : TypeDesc} {cs : List Value} (hx : look e x = some (.pointer (some ⟨b, o, none⟩))) (hT : P.underlying T = some d) (hd : aggD d = true) (hs : sizeIs P T n) (hn : cs.length = n) (hc : Cells w b o cs) : Ev P e (.load T x) w (.agg cs.toArray) :=
  fun w' hw ρ hρ op ho => by
    subst hn
    simp [execOp, ho, hρ _ _ hx, Instr.loadAt, Instr.sureAddr, loadVar, isAgg_run hT, hd, hs.run, hc.load P hw]
theorem Ev.fieldAddr {b o i n : Nat} {fs : Array Field} {f : Field} (hx : look e x = some (.pointer (some ⟨b, o, none⟩))) (hT : P.underlying T = some (.struct fs)) (hf : fs[i]? = some f) (hs : sizeIs P f.type (n + 1)) : Ev P e (.fieldAddr T x i) w (.pointer (some ⟨b, o + f.offset, none⟩)) :=
  fun w' hw ρ hρ op ho => by
    simp [execOp, ho, hρ _ _ hx, Instr.fieldAt, run_underlying hT, hf, Instr.sureAddr, fieldPlace, hs.run, add_none]
theorem Ev.indexAddr {b o n cap s : Nat} {k : IntKind} {i : Int} {E : TypeId} (hx : look e x = some (.slice (some ⟨b, o, none⟩) n cap)) (hy : look e y = some (.int k i)) (hT : P.underlying T = some (.slice E)) (hs : sizeIs P E s) (hi : 0 ≤ i ∧ i < n) :
    Ev P e (.indexAddr T x y) w (.pointer (some ⟨b, o + i.toNat * s, none⟩)) :=
  fun w' hw ρ hρ op ho => by
    simp [execOp, ho, hρ _ _ hx, hρ _ _ hy, Instr.indexAt, asIntOf, run_underlying hT, hi.1, hi.2, hs.run, add_none]
theorem Ev.indexAddrA {b o n s : Nat} {k : IntKind} {i : Int} {E : TypeId} (hx : look e x = some (.pointer (some ⟨b, o, none⟩))) (hy : look e y = some (.int k i)) (hT : P.underlying T = some (.array n E)) (hs : sizeIs P E s) (hi : 0 ≤ i ∧ i < n) :
    Ev P e (.indexAddr T x y) w (.pointer (some ⟨b, o + i.toNat * s, none⟩)) :=
  fun w' hw ρ hρ op ho => by
    simp [execOp, ho, hρ _ _ hx, hρ _ _ hy, Instr.indexAt, asIntOf, run_underlying hT, Instr.sureAddr, hi.1, hi.2, hs.run, add_none]
theorem Ev.indexAddr1 {b o n cap : Nat} {k : IntKind} {i : Int} {E : TypeId} (hx : look e x = some (.slice (some ⟨b, o, none⟩) n cap)) (hy : look e y = some (.int k i)) (hT : P.underlying T = some (.slice E)) (hs : sizeIs P E 1) (hi : 0 ≤ i ∧ i < n) :
    Ev P e (.indexAddr T x y) w (.pointer (some ⟨b, o + i.toNat, none⟩)) := (Ev.indexAddr hx hy hT hs hi).cast (by rw [Nat.mul_one])
theorem Ev.indexAddrA1 {b o n : Nat} {k : IntKind} {i : Int} {E : TypeId} (hx : look e x = some (.pointer (some ⟨b, o, none⟩))) (hy : look e y = some (.int k i)) (hT : P.underlying T = some (.array n E)) (hs : sizeIs P E 1) (hi : 0 ≤ i ∧ i < n) :
    Ev P e (.indexAddr T x y) w (.pointer (some ⟨b, o + i.toNat, none⟩)) := (Ev.indexAddrA hx hy hT hs hi).cast (by rw [Nat.mul_one])
theorem Ev.indexAddr0 {b n cap : Nat} {k : IntKind} {i : Int} {E : TypeId} (hx : look e x = some (.slice (some ⟨b, 0, none⟩) n cap)) (hy : look e y = some (.int k i)) (hT : P.underlying T = some (.slice E)) (hs : sizeIs P E 1) (hi : 0 ≤ i ∧ i < n) :
    Ev P e (.indexAddr T x y) w (.pointer (some ⟨b, i.toNat, none⟩)) := (Ev.indexAddr hx hy hT hs hi).cast (by rw [Nat.mul_one, Nat.zero_add])
theorem Ev.indexAddrA0 {b n : Nat} {k : IntKind} {i : Int} {E : TypeId} (hx : look e x = some (.pointer (some ⟨b, 0, none⟩))) (hy : look e y = some (.int k i)) (hT : P.underlying T = some (.array n E)) (hs : sizeIs P E 1) (hi : 0 ≤ i ∧ i < n) :
    Ev P e (.indexAddr T x y) w (.pointer (some ⟨b, i.toNat, none⟩)) := (Ev.indexAddrA hx hy hT hs hi).cast (by rw [Nat.mul_one, Nat.zero_add])
theorem Ev.nilCheck {a : Addr} (hx : look e x = some (.pointer (some a))) : Ev P e (.nilCheck x) w (.pointer (some a)) :=
  fun w' hw ρ hρ op ho => by simp [execOp, ho, hρ _ _ hx]
theorem Ev.idxS {k : IntKind} {i : Int} {l : Bs} {c : UInt8} (hx : look e x = some (str l)) (hy : look e y = some (.int k i)) (hT : P.underlying T = some .string) (h0 : 0 ≤ i) (hi : l[i.toNat]? = some c) : Ev P e (.index T x y) w (u8 c) :=
  fun w' hw ρ hρ op ho => by
    have h1 : (bs l)[i.toNat]? = some c := by
      have hlt : i.toNat < l.length := (List.getElem?_eq_some_iff.1 hi).1
      rw [ByteArray.getElem?_lt' _ _ (by rw [bs_size]; exact hlt)]
      rw [List.getElem?_eq_getElem hlt] at hi
      simpa [bs, ByteArray.getElem_eq_getElem_data] using hi
    simp [execOp, ho, hρ _ _ hx, hρ _ _ hy, Instr.index, asIntOf, run_underlying hT, h0, h1]

/-- a slice of a slice: its value -/
def cutV (s : Nat) (a : Option Addr) (cap l h : Nat) : Value := .slice (if cap = l then a else a.map (·.add (l * s))) (h - l) (cap - l)
theorem Ev.cut {a : Option Addr} {n cap s : Nat} {k k' : IntKind} {l h : Int} {E : TypeId} {lo hi : Operand} (hx : look e x = some (.slice a n cap)) (hl : look e lo = some (.int k l)) (hh : look e hi = some (.int k' h)) (hT : P.underlying T = some (.slice E)) (hs : sizeIs P E s)
    (hb : 0 ≤ l ∧ l ≤ h ∧ h ≤ cap) : Ev P e (.slice T x (some lo) (some hi) none) w (cutV s a cap l.toNat h.toNat) :=
  fun w' hw ρ hρ op ho => by
    have h1 : 0 ≤ h := by omega
    have h2 : ((h.toNat : Nat) : Int) = h := Int.toNat_of_nonneg h1
    simp [execOp, ho, hρ _ _ hx, hρ _ _ hl, hρ _ _ hh, Instr.sliceAt, Instr.slice, run_underlying hT, Instr.sliceBounds, run_sliceBound, hb.1, hb.2.1, hb.2.2, h1, h2, hs.run, cutV]
theorem Ev.cutLo {a : Option Addr} {n cap s : Nat} {k : IntKind} {l : Int} {E : TypeId} {lo : Operand} (hx : look e x = some (.slice a n cap)) (hl : look e lo = some (.int k l)) (hT : P.underlying T = some (.slice E)) (hs : sizeIs P E s)
    (hb : 0 ≤ l ∧ l ≤ n) : Ev P e (.slice T x (some lo) none none) w (cutV s a cap l.toNat n) :=
  fun w' hw ρ hρ op ho => by
    simp [execOp, ho, hρ _ _ hx, hρ _ _ hl, Instr.sliceAt, Instr.slice, run_underlying hT, Instr.sliceBounds, run_sliceBound, hb.1, hb.2, hs.run, cutV]
theorem Ev.cutHi {a : Option Addr} {n cap s : Nat} {k : IntKind} {h : Int} {E : TypeId} {hi : Operand} (hx : look e x = some (.slice a n cap)) (hh : look e hi = some (.int k h)) (hT : P.underlying T = some (.slice E)) (hs : sizeIs P E s)
    (hb : 0 ≤ h ∧ h ≤ cap) : Ev P e (.slice T x none (some hi) none) w (cutV s a cap 0 h.toNat) :=
  fun w' hw ρ hρ op ho => by
    simp [execOp, ho, hρ _ _ hx, hρ _ _ hh, Instr.sliceAt, Instr.slice, run_underlying hT, Instr.sliceBounds, run_sliceBound, hb.1, hb.2, hs.run, cutV]
theorem Ev.cutS {k k' : IntKind} {l h : Int} {s : Bs} {lo hi : Operand} (hx : look e x = some (str s)) (hl : look e lo = some (.int k l)) (hh : look e hi = some (.int k' h)) (hT : P.underlying T = some .string)
    (hb : 0 ≤ l ∧ l ≤ h ∧ h ≤ s.length) : Ev P e (.slice T x (some lo) (some hi) none) w (str ((s.drop l.toNat).take (h.toNat - l.toNat))) :=
  fun w' hw ρ hρ op ho => by
    have h1 : 0 ≤ h := by omega
    have h2 : ((h.toNat : Nat) : Int) = h := Int.toNat_of_nonneg h1
    simp [execOp, ho, hρ _ _ hx, hρ _ _ hl, hρ _ _ hh, Instr.sliceAt, Instr.slice, run_underlying hT, Instr.sliceBounds, run_sliceBound, hb.1, hb.2.1, hb.2.2, h1, h2, bs_size, bs_extract]
theorem Ev.cutSLo {k : IntKind} {l : Int} {s : Bs} {lo : Operand} (hx : look e x = some (str s)) (hl : look e lo = some (.int k l)) (hT : P.underlying T = some .string)
    (hb : 0 ≤ l ∧ l ≤ s.length) : Ev P e (.slice T x (some lo) none none) w (str (s.drop l.toNat)) :=
  fun w' hw ρ hρ op ho => by
    simp [execOp, ho, hρ _ _ hx, hρ _ _ hl, Instr.sliceAt, Instr.slice, run_underlying hT, Instr.sliceBounds, run_sliceBound, hb.1, hb.2, bs_size, bs_extract]
    rw [List.take_of_length_le (by simp)]
theorem Ev.cutSHi {k : IntKind} {h : Int} {s : Bs} {hi : Operand} (hx : look e x = some (str s)) (hh : look e hi = some (.int k h)) (hT : P.underlying T = some .string)
    (hb : 0 ≤ h ∧ h ≤ s.length) : Ev P e (.slice T x none (some hi) none) w (str (s.take h.toNat)) :=
  fun w' hw ρ hρ op ho => by
    simp [execOp, ho, hρ _ _ hx, hρ _ _ hh, Instr.sliceAt, Instr.slice, run_underlying hT, Instr.sliceBounds, run_sliceBound, hb.1, hb.2, bs_size, bs_extract]
end
end Go.Proofs.Ythkgadhamecnlaa
