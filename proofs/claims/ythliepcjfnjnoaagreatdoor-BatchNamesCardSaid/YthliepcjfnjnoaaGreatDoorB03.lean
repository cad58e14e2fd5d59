import Derived.Test.YthliepcjfnjnoaaGreatDoorB02
import Derived.Deep.AppendSrc
import Derived.Deep.Upon
import Derived.Laws.AppendOwn
set_option linter.unusedVariables false
set_option linter.unusedSimpArgs false
namespace Go.Proofs.YthliepcjfnjnoaaGreatDoor
open Go
theorem add_none (b o n : Nat) : (⟨b, o, none⟩ : Addr).add n = ⟨b, o + n, none⟩ := by
  unfold Addr.add; split <;> simp_all
def Cells (w : World) (b o : Nat) (cs : List Value) : Prop := ∀ j v, cs[j]? = some v → w.cell? ⟨b, o + j, none⟩ = some v
theorem Cells.nil (w : World) (b o : Nat) : Cells w b o [] := fun j v h => by simp at h
theorem Cells.ext {S : Nat → Prop} {w w' : World} {b o : Nat} {cs : List Value} (h : Cells w b o cs) (hx : Ext S w w') (hs : ¬ S b) : Cells w' b o cs :=
  fun j v hj => hx.cell (h j v hj) hs
theorem Cells.ext0 {w w' : World} {b o : Nat} {cs : List Value} (h : Cells w b o cs) (hx : Ext (fun _ => False) w w') : Cells w' b o cs := h.ext hx (fun x => x)
theorem Cells.keep {w w' : World} {b o : Nat} {cs : List Value} (h : Cells w b o cs) (hb : w'.heap[b]? = w.heap[b]?) : Cells w' b o cs :=
  fun j v hj => (World.cell?_of_block (w := w) (a := ⟨b, o + j, none⟩) hb).trans (h j v hj)
theorem Cells.drop {w : World} {b o : Nat} {cs : List Value} (h : Cells w b o cs) (n : Nat) : Cells w b (o + n) (cs.drop n) := fun j v hj => by
  rw [List.getElem?_drop] at hj
  have := h (n + j) v hj
  rwa [show o + (n + j) = o + n + j by omega] at this
theorem Cells.take {w : World} {b o : Nat} {cs : List Value} (h : Cells w b o cs) (n : Nat) : Cells w b o (cs.take n) := fun j v hj => by
  rw [List.getElem?_take] at hj
  split at hj
  · exact h j v hj
  · cases hj
theorem Cells.append {w : World} {b o : Nat} {xs ys : List Value} (h : Cells w b o xs) (h' : Cells w b (o + xs.length) ys) : Cells w b o (xs ++ ys) := fun j v hj => by
  by_cases hlt : j < xs.length
  · exact h j v (by rwa [List.getElem?_append_left hlt] at hj)
  · rw [List.getElem?_append_right (by omega)] at hj
    have := h' _ v hj
    rwa [show o + xs.length + (j - xs.length) = o + j by omega] at this
theorem Cells.left {w : World} {b o : Nat} {xs ys : List Value} (h : Cells w b o (xs ++ ys)) : Cells w b o xs := by have := h.take xs.length; rwa [List.take_left] at this
theorem Cells.right {w : World} {b o : Nat} {xs ys : List Value} (h : Cells w b o (xs ++ ys)) : Cells w b (o + xs.length) ys := by have := h.drop xs.length; rwa [List.drop_left] at this
theorem Cells.load {w w' : World} {b o : Nat} {cs : List Value} (h : Cells w b o cs) (P : Program) (hx : Ext (fun _ => False) w w') : (loadCells ⟨b, o, none⟩ cs.length).run P w' = .ok cs.toArray w' :=
  run_loadCells_list w' ⟨b, o, none⟩ cs (fun j v hj => by rw [add_none]; exact h.ext hx (fun x => x) j v hj)
def Blk (w : World) (b : Nat) (E : TypeId) (cs : List Value) : Prop := ∃ fr : Nat × Nat, w.heap[b]? = some (.cells cs.toArray E fr) ∧ cs.length ≤ fr.1 ∨ (w.heap[b]? = some (.cells cs.toArray E fr) ∧ fr.2 ≤ fr.1)
theorem Blk.heap {w : World} {b : Nat} {E : TypeId} {cs : List Value} (h : Blk w b E cs) : ∃ fr : Nat × Nat, w.heap[b]? = some (.cells cs.toArray E fr) ∧ ∀ i, i < cs.length → ¬ (fr.1 ≤ i ∧ i < fr.2) := by
  obtain ⟨fr, ⟨h1, h2⟩ | ⟨h1, h2⟩⟩ := h
  · exact ⟨fr, h1, fun i hi => by omega⟩
  · exact ⟨fr, h1, fun i hi => by omega⟩
theorem Blk.lt {w : World} {b : Nat} {E : TypeId} {cs : List Value} (h : Blk w b E cs) : b < w.heap.size := by
  obtain ⟨fr, h1, _⟩ := h.heap
  exact (Array.getElem?_eq_some_iff.1 h1).1
theorem Blk.cell {w : World} {b : Nat} {E : TypeId} {cs : List Value} (h : Blk w b E cs) (i : Nat) : w.cell? ⟨b, i, none⟩ = cs[i]? := by
  obtain ⟨fr, h1, _⟩ := h.heap
  simp [World.cell?, h1]
theorem Blk.cells {w : World} {b : Nat} {E : TypeId} {cs : List Value} (h : Blk w b E cs) : Cells w b 0 cs := fun j v hj => by rw [h.cell, Nat.zero_add]; exact hj
theorem Blk.cellsAt {w : World} {b : Nat} {E : TypeId} {cs : List Value} (h : Blk w b E cs) (o : Nat) : Cells w b o (cs.drop o) := by have := h.cells.drop o; rwa [Nat.zero_add] at this
theorem Blk.thawed {w : World} {b : Nat} {E : TypeId} {cs : List Value} (h : Blk w b E cs) (i : Nat) (hi : i < cs.length) : w.frozen? ⟨b, i, none⟩ = false := by
  obtain ⟨fr, h1, h2⟩ := h.heap
  have := h2 i hi
  simp only [World.frozen?, h1]
  simp
  omega
theorem Blk.keep {w w' : World} {b : Nat} {E : TypeId} {cs : List Value} (h : Blk w b E cs) (hb : w'.heap[b]? = w.heap[b]?) : Blk w' b E cs := by
  unfold Blk at *; rw [hb]; exact h
theorem Blk.ext {S : Nat → Prop} {w w' : World} {b : Nat} {E : TypeId} {cs : List Value} (h : Blk w b E cs) (hx : Ext S w w') (hs : ¬ S b) : Blk w' b E cs := h.keep (hx.block b h.lt hs)
theorem Blk.ext0 {w w' : World} {b : Nat} {E : TypeId} {cs : List Value} (h : Blk w b E cs) (hx : Ext (fun _ => False) w w') : Blk w' b E cs := h.ext hx (fun x => x)
theorem Blk.alloc (w : World) (cs : List Value) (E : TypeId) : Blk (w.alloc (.cells cs.toArray E)) w.heap.size E cs :=
  ⟨(0, 0), .inr ⟨heap_alloc_new w _, Nat.le_refl _⟩⟩
theorem Blk.set {w : World} {b : Nat} {E : TypeId} {cs : List Value} (h : Blk w b E cs) (i : Nat) (u : Value) : Blk (w.setCell ⟨b, i, none⟩ u) b E (cs.set i u) := by
  obtain ⟨fr, h⟩ := h
  have hh : ∀ (h1 : w.heap[b]? = some (.cells cs.toArray E fr)), (w.setCell ⟨b, i, none⟩ u).heap[b]? = some (.cells (cs.set i u).toArray E fr) := fun h1 => by
    simp only [World.setCell, Array.getElem?_modify, if_true, h1]
    simp
  refine ⟨fr, ?_⟩
  rcases h with ⟨h1, h2⟩ | ⟨h1, h2⟩
  · exact .inl ⟨hh h1, by simpa using h2⟩
  · exact .inr ⟨hh h1, h2⟩
theorem storeVar_one {P : Program} {w : World} {b i : Nat} {E T : TypeId} {cs : List Value} (h : Blk w b E cs) (hi : i < cs.length) {u : Value} (hu : u.oneCell' = true) {ti : TypeInfo} (hT : P.info? T = some ti) (hs : ti.size = 1) :
    (storeVar T ⟨b, i, none⟩ u).run P w = .ok () (w.setCell ⟨b, i, none⟩ u) := by
  have hc : u.cells = #[u] := by cases u <;> simp_all [Value.cells, Value.oneCell']
  have hcell : ∃ x, w.cell? ⟨b, i, none⟩ = some x := ⟨cs[i], by rw [h.cell]; simp [hi]⟩
  obtain ⟨x, hx⟩ := hcell
  simp [storeVar, sizeOf, typeInfo, hT, hs, hc, storeCells, add_none, run_store, hu, hx, h.thawed i hi]
def putCells (w : World) (b : Nat) : Nat → List Value → World
  | _, [] => w
  | o, v :: r => putCells (w.setCell ⟨b, o, none⟩ v) b (o + 1) r
def splice (cs : List Value) : Nat → List Value → List Value
  | _, [] => cs
  | o, v :: r => splice (cs.set o v) (o + 1) r
theorem Blk.put : ∀ (vs : List Value) {w : World} {b : Nat} {E : TypeId} {cs : List Value} (o : Nat), Blk w b E cs → Blk (putCells w b o vs) b E (splice cs o vs)
  | [], _, _, _, _, _, h => h
  | v :: r, _, _, _, _, o, h => Blk.put r (o + 1) (h.set o v)
theorem putCells_ext : ∀ (vs : List Value) (w : World) (b o : Nat), Ext (· = b) w (putCells w b o vs)
  | [], w, b, o => .refl w
  | v :: r, w, b, o => (Ext.setCell (S := (· = b)) w (p := ⟨b, o, none⟩) rfl v).trans (putCells_ext r _ b (o + 1))
theorem putCells_size : ∀ (vs : List Value) (w : World) (b o : Nat), (putCells w b o vs).heap.size = w.heap.size
  | [], _, _, _ => rfl
  | v :: r, w, b, o => by rw [putCells, putCells_size r]; simp
theorem run_putCells {P : Program} {b : Nat} {E : TypeId} : ∀ (vs : List Value) {w : World} {cs : List Value} (o i : Nat), Blk w b E cs → o + i + vs.length ≤ cs.length → (∀ v ∈ vs, v.oneCell' = true) →
    (storeCells ⟨b, o, none⟩ vs i).run P w = .ok () (putCells w b (o + i) vs)
  | [], _, _, _, _, _, _, _ => rfl
  | v :: r, w, cs, o, i, h, hl, h1 => by
    have hi : o + i < cs.length := by simp at hl; omega
    have hx : w.cell? ⟨b, o + i, none⟩ = some cs[o + i] := by rw [h.cell]; simp [hi]
    have ih := run_putCells (P := P) r o (i + 1) (h.set (o + i) v) (by simp at hl ⊢; omega) (fun u hu => h1 u (by simp [hu]))
    have hst : (store ⟨b, o + i, none⟩ v).run P w = .ok () (w.setCell ⟨b, o + i, none⟩ v) := by
      simp [run_store, h1 v (by simp), hx, h.thawed _ hi]
    simp only [storeCells, add_none, Sem.run_bind, hst, Result.andThen_ok, ih, putCells]
    rfl
theorem splice_eq : ∀ (vs cs : List Value) (o : Nat), o + vs.length ≤ cs.length → splice cs o vs = cs.take o ++ vs ++ cs.drop (o + vs.length)
  | [], cs, o, _ => by simp [splice]
  | v :: r, cs, o, h => by
    have hl : o < cs.length := by simp at h; omega
    rw [splice, splice_eq r _ _ (by simp at h ⊢; omega)]
    have h1 : (cs.set o v).take (o + 1) = cs.take o ++ [v] := by
      rw [List.take_succ_eq_append_getElem (by simpa using hl), List.take_set_of_le (Nat.le_refl _)]
      simp
    rw [h1, List.drop_set_of_lt (by omega)]
    simp only [List.length_cons, List.append_assoc, List.cons_append, List.nil_append]
    rw [show o + 1 + r.length = o + (r.length + 1) by omega]
def sizeIs (P : Program) (T : TypeId) (n : Nat) : Prop := (P.info? T).map (·.size) = some n
theorem sizeIs.run {P : Program} {T : TypeId} {n : Nat} (h : sizeIs P T n) (w : World) : (sizeOf T).run P w = .ok n w := by
  unfold sizeIs at h
  cases hi : P.info? T with
  | none => simp [hi] at h
  | some i => simp [hi] at h; simp [sizeOf, typeInfo, hi, h]
def aggD : TypeDesc → Bool
  | .struct _ | .array _ _ => true
  | _ => false
theorem isAgg_run {P : Program} {T : TypeId} {d : TypeDesc} (h : P.underlying T = some d) (w : World) : (isAgg T).run P w = .ok (aggD d) w := by
  simp only [isAgg, Sem.run_bind, run_underlying h, Result.andThen_ok]
  cases d <;> rfl
section
variable {P : Program} {e : Env} {w : World} {x y z : Operand} {T T' : TypeId} {v u : Value}
theorem Ev.load {b o : Nat} {d : TypeDesc} (hx : look e x = some (.pointer (some ⟨b, o, none⟩))) (hT : P.underlying T = some d) (hd : aggD d = false) (hc : w.cell? ⟨b, o, none⟩ = some v) : Ev P e (.load T x) w v :=
  fun w' hw ρ hρ op ho => by
    have hc' := hw.cell hc (fun x => x)
    simp [execOp, ho, hρ _ _ hx, Instr.loadAt, Instr.sureAddr, loadVar, isAgg_run hT, hd, hc']
theorem Ev.loadA {b o n : Nat} {d : TypeDesc} {cs : List Value} (hx : look e x = some (.pointer (some ⟨b, o, none⟩))) (hT : P.underlying T = some d) (hd : aggD d = true) (hs : sizeIs P T n) (hn : cs.length = n) (hc : Cells w b o cs) : Ev P e (.load T x) w (.agg cs.toArray) :=
  fun w' hw ρ hρ op ho => by
    subst hn
    simp [execOp, ho, hρ _ _ hx, Instr.loadAt, Instr.sureAddr, loadVar, isAgg_run hT, hd, hs.run, hc.load P hw]
theorem Ev.fieldAddr {b o i n : Nat} {fs : Array Field} {f : Field} (hx : look e x = some (.pointer (some ⟨b, o, none⟩))) (hT : P.underlying T = some (.struct fs)) (hf : fs[i]? = some f) (hs : sizeIs P f.type (n + 1)) : Ev P e (.fieldAddr T x i) w (.pointer (some ⟨b, o + f.offset, none⟩)) :=
  fun w' hw ρ hρ op ho => by
    simp [execOp, ho, hρ _ _ hx, Instr.fieldAt, run_underlying hT, hf, Instr.sureAddr, fieldPlace, hs.run, add_none]
theorem Ev.indexAddr {b o n cap s : Nat} {k : IntKind} {i : Int} {E : TypeId} (hx : look e x = some (.slice (some ⟨b, o, none⟩) n cap)) (hy : look e y = some (.int k i)) (hT : P.underlying T = some (.slice E)) (hs : sizeIs P E s) (hi : 0 ≤ i ∧ i < n) :
    Ev P e (.indexAddr T x y) w (.pointer (some ⟨b, o + i.toNat * s, none⟩)) :=
  fun w' hw ρ hρ op ho => by
    simp [execOp, ho, hρ _ _ hx, hρ _ _ hy, Instr.indexAt, asIntOf, run_underlying hT, hi.1, hi.2, hs.run, add_none]
theorem Ev.indexAddrA {b o n s : Nat} {k : IntKind} {i : Int} {E : TypeId} (hx : look e x = some (.pointer (some ⟨b, o, none⟩))) (hy : look e y = some (.int k i)) (hT : P.underlying T = some (.array n E)) (hs : sizeIs P E s) (hi : 0 ≤ i ∧ i < n) :
    Ev P e (.indexAddr T x y) w (.pointer (some ⟨b, o + i.toNat * s, none⟩)) :=
  fun w' hw ρ hρ op ho => by
    simp [execOp, ho, hρ _ _ hx, hρ _ _ hy, Instr.indexAt, asIntOf, run_underlying hT, Instr.sureAddr, hi.1, hi.2, hs.run, add_none]
theorem Ev.indexAddr1 {b o n cap : Nat} {k : IntKind} {i : Int} {E : TypeId} (hx : look e x = some (.slice (some ⟨b, o, none⟩) n cap)) (hy : look e y = some (.int k i)) (hT : P.underlying T = some (.slice E)) (hs : sizeIs P E 1) (hi : 0 ≤ i ∧ i < n) :
    Ev P e (.indexAddr T x y) w (.pointer (some ⟨b, o + i.toNat, none⟩)) := (Ev.indexAddr hx hy hT hs hi).cast (by rw [Nat.mul_one])
theorem Ev.indexAddrA1 {b o n : Nat} {k : IntKind} {i : Int} {E : TypeId} (hx : look e x = some (.pointer (some ⟨b, o, none⟩))) (hy : look e y = some (.int k i)) (hT : P.underlying T = some (.array n E)) (hs : sizeIs P E 1) (hi : 0 ≤ i ∧ i < n) :
    Ev P e (.indexAddr T x y) w (.pointer (some ⟨b, o + i.toNat, none⟩)) := (Ev.indexAddrA hx hy hT hs hi).cast (by rw [Nat.mul_one])
theorem Ev.indexAddr0 {b n cap : Nat} {k : IntKind} {i : Int} {E : TypeId} (hx : look e x = some (.slice (some ⟨b, 0, none⟩) n cap)) (hy : look e y = some (.int k i)) (hT : P.underlying T = some (.slice E)) (hs : sizeIs P E 1) (hi : 0 ≤ i ∧ i < n) :
    Ev P e (.indexAddr T x y) w (.pointer (some ⟨b, i.toNat, none⟩)) := (Ev.indexAddr hx hy hT hs hi).cast (by rw [Nat.mul_one, Nat.zero_add])
theorem Ev.indexAddrA0 {b n : Nat} {k : IntKind} {i : Int} {E : TypeId} (hx : look e x = some (.pointer (some ⟨b, 0, none⟩))) (hy : look e y = some (.int k i)) (hT : P.underlying T = some (.array n E)) (hs : sizeIs P E 1) (hi : 0 ≤ i ∧ i < n) :
    Ev P e (.indexAddr T x y) w (.pointer (some ⟨b, i.toNat, none⟩)) := (Ev.indexAddrA hx hy hT hs hi).cast (by rw [Nat.mul_one, Nat.zero_add])
theorem Ev.nilCheck {a : Addr} (hx : look e x = some (.pointer (some a))) : Ev P e (.nilCheck x) w (.pointer (some a)) :=
  fun w' hw ρ hρ op ho => by simp [execOp, ho, hρ _ _ hx]
theorem Ev.idxS {k : IntKind} {i : Int} {l : Bs} {c : UInt8} (hx : look e x = some (str l)) (hy : look e y = some (.int k i)) (hT : P.underlying T = some .string) (h0 : 0 ≤ i) (hi : l[i.toNat]? = some c) : Ev P e (.index T x y) w (u8 c) :=
  fun w' hw ρ hρ op ho => by
    have h1 : (bs l)[i.toNat]? = some c := by
      have hlt : i.toNat < l.length := (List.getElem?_eq_some_iff.1 hi).1
      rw [ByteArray.getElem?_lt' _ _ (by rw [bs_size]; exact hlt)]
      rw [List.getElem?_eq_getElem hlt] at hi
      simpa [bs, ByteArray.getElem_eq_getElem_data] using hi
    simp [execOp, ho, hρ _ _ hx, hρ _ _ hy, Instr.index, asIntOf, run_underlying hT, h0, h1]
def cutV (s : Nat) (a : Option Addr) (cap l h : Nat) : Value := .slice (if cap = l then a else a.map (·.add (l * s))) (h - l) (cap - l)
theorem Ev.cut {a : Option Addr} {n cap s : Nat} {k k' : IntKind} {l h : Int} {E : TypeId} {lo hi : Operand} (hx : look e x = some (.slice a n cap)) (hl : look e lo = some (.int k l)) (hh : look e hi = some (.int k' h)) (hT : P.underlying T = some (.slice E)) (hs : sizeIs P E s)
    (hb : 0 ≤ l ∧ l ≤ h ∧ h ≤ cap) : Ev P e (.slice T x (some lo) (some hi) none) w (cutV s a cap l.toNat h.toNat) :=
  fun w' hw ρ hρ op ho => by
    have h1 : 0 ≤ h := by omega
    have h2 : ((h.toNat : Nat) : Int) = h := Int.toNat_of_nonneg h1
    simp [execOp, ho, hρ _ _ hx, hρ _ _ hl, hρ _ _ hh, Instr.sliceAt, Instr.slice, run_underlying hT, Instr.sliceBounds, run_sliceBound, hb.1, hb.2.1, hb.2.2, h1, h2, hs.run, cutV]
theorem Ev.cutLo {a : Option Addr} {n cap s : Nat} {k : IntKind} {l : Int} {E : TypeId} {lo : Operand} (hx : look e x = some (.slice a n cap)) (hl : look e lo = some (.int k l)) (hT : P.underlying T = some (.slice E)) (hs : sizeIs P E s)
    (hb : 0 ≤ l ∧ l ≤ n) : Ev P e (.slice T x (some lo) none none) w (cutV s a cap l.toNat n) :=
  fun w' hw ρ hρ op ho => by
    simp [execOp, ho, hρ _ _ hx, hρ _ _ hl, Instr.sliceAt, Instr.slice, run_underlying hT, Instr.sliceBounds, run_sliceBound, hb.1, hb.2, hs.run, cutV]
theorem Ev.cutHi {a : Option Addr} {n cap s : Nat} {k : IntKind} {h : Int} {E : TypeId} {hi : Operand} (hx : look e x = some (.slice a n cap)) (hh : look e hi = some (.int k h)) (hT : P.underlying T = some (.slice E)) (hs : sizeIs P E s)
    (hb : 0 ≤ h ∧ h ≤ cap) : Ev P e (.slice T x none (some hi) none) w (cutV s a cap 0 h.toNat) :=
  fun w' hw ρ hρ op ho => by
    simp [execOp, ho, hρ _ _ hx, hρ _ _ hh, Instr.sliceAt, Instr.slice, run_underlying hT, Instr.sliceBounds, run_sliceBound, hb.1, hb.2, hs.run, cutV]
theorem Ev.cutS {k k' : IntKind} {l h : Int} {s : Bs} {lo hi : Operand} (hx : look e x = some (str s)) (hl : look e lo = some (.int k l)) (hh : look e hi = some (.int k' h)) (hT : P.underlying T = some .string)
    (hb : 0 ≤ l ∧ l ≤ h ∧ h ≤ s.length) : Ev P e (.slice T x (some lo) (some hi) none) w (str ((s.drop l.toNat).take (h.toNat - l.toNat))) :=
  fun w' hw ρ hρ op ho => by
    have h1 : 0 ≤ h := by omega
    have h2 : ((h.toNat : Nat) : Int) = h := Int.toNat_of_nonneg h1
    simp [execOp, ho, hρ _ _ hx, hρ _ _ hl, hρ _ _ hh, Instr.sliceAt, Instr.slice, run_underlying hT, Instr.sliceBounds, run_sliceBound, hb.1, hb.2.1, hb.2.2, h1, h2, bs_size, bs_extract]
theorem Ev.cutSLo {k : IntKind} {l : Int} {s : Bs} {lo : Operand} (hx : look e x = some (str s)) (hl : look e lo = some (.int k l)) (hT : P.underlying T = some .string)
    (hb : 0 ≤ l ∧ l ≤ s.length) : Ev P e (.slice T x (some lo) none none) w (str (s.drop l.toNat)) :=
  fun w' hw ρ hρ op ho => by
    simp [execOp, ho, hρ _ _ hx, hρ _ _ hl, Instr.sliceAt, Instr.slice, run_underlying hT, Instr.sliceBounds, run_sliceBound, hb.1, hb.2, bs_size, bs_extract]
    rw [List.take_of_length_le (by simp)]
theorem Ev.cutSHi {k : IntKind} {h : Int} {s : Bs} {hi : Operand} (hx : look e x = some (str s)) (hh : look e hi = some (.int k h)) (hT : P.underlying T = some .string)
    (hb : 0 ≤ h ∧ h ≤ s.length) : Ev P e (.slice T x none (some hi) none) w (str (s.take h.toNat)) :=
  fun w' hw ρ hρ op ho => by
    simp [execOp, ho, hρ _ _ hx, hρ _ _ hh, Instr.sliceAt, Instr.slice, run_underlying hT, Instr.sliceBounds, run_sliceBound, hb.1, hb.2, bs_size, bs_extract]
end
end Go.Proofs.YthliepcjfnjnoaaGreatDoor
namespace Go.Proofs.YthliepcjfnjnoaaGreatDoor
open Go
structure Ty (α : Type) where
  size : Nat
  rep : (Nat → Prop) → World → Value → α → Prop
  sz : ∀ {P w v x}, rep P w v x → v.cells.size = size
  one : ∀ {P w v x}, rep P w v x → ∀ u ∈ v.cells.toList, u.oneCell' = true
  keep : ∀ {P w w' v x}, rep P w v x → (∀ k, P k → k < w.heap.size → w'.heap[k]? = w.heap[k]?) → rep P w' v x
  mono : ∀ {P P' w v x}, rep P w v x → (∀ k, P k → k < w.heap.size → P' k) → rep P' w v x
abbrev All : Nat → Prop := fun _ => True
theorem Ty.ext {α : Type} (t : Ty α) {P S : Nat → Prop} {w w' : World} {v : Value} {x : α} (h : t.rep P w v x) (hx : Ext S w w') (hs : ∀ k, P k → k < w.heap.size → ¬ S k) : t.rep P w' v x :=
  t.keep h (fun k hk hlt => hx.block k hlt (hs k hk hlt))
theorem Ty.ext0 {α : Type} (t : Ty α) {P : Nat → Prop} {w w' : World} {v : Value} {x : α} (h : t.rep P w v x) (hx : Ext (fun _ => False) w w') : t.rep P w' v x := t.ext h hx (fun _ _ _ hf => hf)
theorem Ty.all {α : Type} (t : Ty α) {P : Nat → Prop} {w : World} {v : Value} {x : α} (h : t.rep P w v x) : t.rep All w v x := t.mono h (fun _ _ _ => trivial)
theorem allOf {α : Type} {t : Ty α} {P : Nat → Prop} {w : World} {v : Value} {x : α} (h : t.rep P w v x) : t.rep All w v x := t.mono h (fun _ _ _ => trivial)
abbrev Lim : Nat := 140737488355328
def tByte : Ty UInt8 := { size := 1, rep := fun _ _ v x => v = u8 x, sz := by rintro _ _ _ _ rfl; rfl, one := by rintro _ _ _ _ rfl u hu; simp [Value.cells] at hu; subst hu; rfl, keep := fun h _ => h, mono := fun h _ => h }
def tBool : Ty Bool := { size := 1, rep := fun _ _ v x => v = .bool x, sz := by rintro _ _ _ _ rfl; rfl, one := by rintro _ _ _ _ rfl u hu; simp [Value.cells] at hu; subst hu; rfl, keep := fun h _ => h, mono := fun h _ => h }
def tInt : Ty Int := { size := 1, rep := fun _ _ v x => v = i64 x ∧ -9223372036854775808 ≤ x ∧ x ≤ 9223372036854775807, sz := by rintro _ _ _ _ ⟨rfl, _⟩; rfl, one := by rintro _ _ _ _ ⟨rfl, _⟩ u hu; simp [Value.cells] at hu; subst hu; rfl, keep := fun h _ => h, mono := fun h _ => h }
def tStr : Ty Bs := { size := 1, rep := fun _ _ v x => v = str x ∧ x.length < Lim, sz := by rintro _ _ _ _ ⟨rfl, _⟩; rfl, one := by rintro _ _ _ _ ⟨rfl, _⟩ u hu; simp [Value.cells] at hu; subst hu; rfl, keep := fun h _ => h, mono := fun h _ => h }
def flat (us : List Value) : List Value := us.flatMap (·.cells.toList)
theorem flat_cons (u : Value) (us : List Value) : flat (u :: us) = u.cells.toList ++ flat us := by simp [flat]
theorem flat_append (a b : List Value) : flat (a ++ b) = flat a ++ flat b := by simp [flat]
theorem flat_length {n : Nat} : ∀ {us : List Value}, (∀ u ∈ us, u.cells.size = n) → (flat us).length = us.length * n
  | [], _ => by simp [flat]
  | u :: us, h => by
    rw [flat_cons, List.length_append, flat_length (fun x hx => h x (by simp [hx])), Array.length_toList, h u (by simp)]
    simp [Nat.add_mul, Nat.add_comm]
theorem flat_one {us : List Value} (h : ∀ u ∈ us, u.oneCell' = true) : flat us = us := by
  induction us with
  | nil => rfl
  | cons u us ih =>
    rw [flat_cons, ih (fun x hx => h x (by simp [hx]))]
    have := h u (by simp)
    cases u <;> simp_all [Value.cells, Value.oneCell']
theorem flat_take {n : Nat} : ∀ {us : List Value} (k : Nat), (∀ u ∈ us, u.cells.size = n) → flat (us.take k) = (flat us).take (k * n)
  | [], k, _ => by simp [flat]
  | u :: us, 0, _ => by simp [flat]
  | u :: us, k + 1, h => by
    have hu : u.cells.toList.length = n := by rw [Array.length_toList, h u (by simp)]
    rw [List.take_succ_cons, flat_cons, flat_cons, flat_take k (fun x hx => h x (by simp [hx])), List.take_append, hu, show (k + 1) * n - n = k * n by rw [Nat.add_mul]; omega, List.take_of_length_le (l := u.cells.toList) (by rw [hu, Nat.add_mul]; omega)]
theorem flat_drop {n : Nat} : ∀ {us : List Value} (k : Nat), (∀ u ∈ us, u.cells.size = n) → flat (us.drop k) = (flat us).drop (k * n)
  | [], k, _ => by simp [flat]
  | u :: us, 0, _ => by simp
  | u :: us, k + 1, h => by
    have hu : u.cells.toList.length = n := by rw [Array.length_toList, h u (by simp)]
    rw [List.drop_succ_cons, flat_cons, flat_drop k (fun x hx => h x (by simp [hx])), List.drop_append, hu, show (k + 1) * n - n = k * n by rw [Nat.add_mul]; omega, List.drop_of_length_le (l := u.cells.toList) (by rw [hu, Nat.add_mul]; omega), List.nil_append]
inductive Each {α : Type} (R : Value → α → Prop) : List Value → List α → Prop where
  | nil : Each R [] []
  | cons {u x us xs} : R u x → Each R us xs → Each R (u :: us) (x :: xs)
namespace Each
variable {α : Type} {R R' : Value → α → Prop} {us vs : List Value} {xs ys : List α}
theorem length (h : Each R us xs) : us.length = xs.length := by induction h <;> simp_all
theorem imp (h : Each R us xs) (hr : ∀ u x, R u x → R' u x) : Each R' us xs := by
  induction h with
  | nil => exact .nil
  | cons h1 _ ih => exact .cons (hr _ _ h1) ih
theorem append (h : Each R us xs) (h' : Each R vs ys) : Each R (us ++ vs) (xs ++ ys) := by
  induction h with
  | nil => exact h'
  | cons h1 _ ih => exact .cons h1 ih
theorem get (h : Each R us xs) : ∀ {i : Nat} {x : α}, xs[i]? = some x → ∃ u, us[i]? = some u ∧ R u x := by
  induction h with
  | nil => intro i x hi; simp at hi
  | cons h1 _ ih =>
    intro i x hi
    cases i with
    | zero => simp at hi; subst hi; exact ⟨_, rfl, h1⟩
    | succ i => simp at hi; obtain ⟨u, hu, hr⟩ := ih hi; exact ⟨u, by simpa using hu, hr⟩
theorem take (h : Each R us xs) (n : Nat) : Each R (us.take n) (xs.take n) := by
  induction h generalizing n with
  | nil => simpa using Each.nil
  | cons h1 _ ih =>
    cases n with
    | zero => simpa using Each.nil
    | succ n => simpa using Each.cons h1 (ih n)
theorem drop (h : Each R us xs) (n : Nat) : Each R (us.drop n) (xs.drop n) := by
  induction h generalizing n with
  | nil => simpa using Each.nil
  | cons h1 h2 ih =>
    cases n with
    | zero => simpa using Each.cons h1 h2
    | succ n => simpa using ih n
theorem set (h : Each R us xs) (i : Nat) {u : Value} {x : α} (hr : R u x) : Each R (us.set i u) (xs.set i x) := by
  induction h generalizing i with
  | nil => simpa using Each.nil
  | cons h1 h2 ih =>
    cases i with
    | zero => simpa using Each.cons hr h2
    | succ i => simpa using Each.cons h1 (ih i)
theorem mem {n : Nat} (h : Each R us xs) (hr : ∀ u x, R u x → u.cells.size = n) : ∀ u ∈ us, u.cells.size = n := by
  induction h with
  | nil => intro u hu; cases hu
  | cons h1 _ ih =>
    intro u hu
    cases hu with
    | head => exact hr _ _ h1
    | tail _ hu => exact ih u hu
theorem map (f : α → Value) (hf : ∀ x, R (f x) x) (xs : List α) : Each R (xs.map f) xs := by
  induction xs with
  | nil => exact .nil
  | cons x xs ih => exact .cons (hf x) ih
theorem mapMem (f : α → Value) : ∀ {xs : List α}, (∀ x ∈ xs, R (f x) x) → Each R (xs.map f) xs
  | [], _ => .nil
  | x :: xs, h => .cons (h x (by simp)) (mapMem f (fun y hy => h y (by simp [hy])))
theorem eq_map (f : α → Value) (h : Each (fun u x => u = f x) us xs) : us = xs.map f := by
  induction h with
  | nil => rfl
  | cons h1 _ ih => simp [h1, ih]
end Each
def Sl {α : Type} (t : Ty α) : Ty (List α) where
  size := 1
  rep P w v xs := xs.length < Lim ∧ ∃ a cap, v = .slice a xs.length cap ∧ xs.length ≤ cap ∧
    ((xs = [] ∧ cap = 0) ∨ ∃ b o us, a = some ⟨b, o, none⟩ ∧ P b ∧ b < w.heap.size ∧ Each (t.rep P w) us xs ∧ Cells w b o (flat us))
  sz := by rintro _ _ _ _ ⟨_, a, cap, rfl, _⟩; rfl
  one := by rintro _ _ _ _ ⟨_, a, cap, rfl, _⟩ u hu; simp [Value.cells] at hu; subst hu; rfl
  keep := by
    rintro P w w' v xs ⟨hl, a, cap, rfl, hc, h⟩ hk
    refine ⟨hl, a, cap, rfl, hc, ?_⟩
    rcases h with h | ⟨b, o, us, rfl, hb, hlt, he, hcs⟩
    · exact .inl h
    · have hb' := hk b hb hlt
      have hlt' : b < w'.heap.size := by
        rcases Nat.lt_or_ge b w'.heap.size with h | h
        · exact h
        · rw [Array.getElem?_eq_none h] at hb'
          simp [hlt] at hb'
      exact .inr ⟨b, o, us, rfl, hb, hlt', he.imp (fun u x h => t.keep h hk), hcs.keep hb'⟩
  mono := by
    rintro P P' w v xs ⟨hl, a, cap, rfl, hc, h⟩ hk
    refine ⟨hl, a, cap, rfl, hc, ?_⟩
    rcases h with h | ⟨b, o, us, rfl, hb, hlt, he, hcs⟩
    · exact .inl h
    · exact .inr ⟨b, o, us, rfl, hk b hb hlt, hlt, he.imp (fun u x h => t.mono h hk), hcs⟩
abbrev tBytes := Sl tByte
abbrev tInts := Sl tInt
abbrev tStrs := Sl tStr
section
variable {α : Type} {t : Ty α} {P : Nat → Prop} {w : World} {v : Value} {xs : List α}
theorem Sl.val (h : (Sl t).rep P w v xs) : ∃ a cap, v = .slice a xs.length cap ∧ xs.length ≤ cap := by obtain ⟨_, a, cap, h1, h2, _⟩ := h; exact ⟨a, cap, h1, h2⟩
theorem Sl.lim (h : (Sl t).rep P w v xs) : xs.length < Lim := h.1
theorem Sl.at (h : (Sl t).rep P w v xs) {i : Nat} {x : α} (hi : xs[i]? = some x) : ∃ b o cap u, v = .slice (some ⟨b, o, none⟩) xs.length cap ∧ P b ∧ Cells w b (o + i * t.size) u.cells.toList ∧ t.rep P w u x := by
  obtain ⟨_, a, cap, rfl, hc, h⟩ := h
  rcases h with ⟨rfl, _⟩ | ⟨b, o, us, rfl, hb, hlt, he, hcs⟩
  · simp at hi
  · obtain ⟨u, hu, hr⟩ := he.get hi
    refine ⟨b, o, cap, u, rfl, hb, ?_, hr⟩
    have hsz := he.mem (n := t.size) (fun u x h => t.sz h)
    have h1 := hcs.drop (i * t.size)
    rw [← flat_drop i hsz] at h1
    have hlt : i < us.length := (List.getElem?_eq_some_iff.1 hu).1
    have h2 : us.drop i = u :: us.drop (i + 1) := by
      rw [List.getElem?_eq_getElem hlt] at hu
      rw [List.drop_eq_getElem_cons hlt]
      simp at hu
      rw [hu]
    rw [h2, flat_cons] at h1
    exact h1.left
theorem Sl.nil : (Sl t).rep P w (.slice none 0 0) [] := ⟨by show 0 < Lim; decide, none, 0, rfl, Nat.le_refl _, .inl ⟨rfl, rfl⟩⟩
theorem Sl.mk {b o cap : Nat} {us : List Value} (he : Each (t.rep P w) us xs) (hc : Cells w b o (flat us)) (hb : P b) (hlt : b < w.heap.size) (hcap : xs.length ≤ cap) (hl : xs.length < Lim) {n : Nat} (hn : n = xs.length) : (Sl t).rep P w (.slice (some ⟨b, o, none⟩) n cap) xs :=
  ⟨hl, _, cap, by rw [hn], hcap, .inr ⟨b, o, us, rfl, hb, hlt, he, hc⟩⟩
theorem Sl.cut {a : Option Addr} {n cap : Nat} (h : (Sl t).rep P w (.slice a n cap) xs) (l k : Nat) (h1 : l ≤ k) (h2 : k ≤ n) : (Sl t).rep P w (cutV t.size a cap l k) ((xs.take k).drop l) := by
  obtain ⟨hl, a', cap', hv, hc, h⟩ := h
  cases hv
  have hlen : ((xs.take k).drop l).length = k - l := by simp; omega
  refine ⟨by rw [hlen]; simp only [Lim] at *; omega, (if cap = l then a else a.map (·.add (l * t.size))), cap - l, by simp [cutV, hlen], by rw [hlen]; omega, ?_⟩
  rcases h with ⟨rfl, rfl⟩ | ⟨b, o, us, rfl, hb, hlt, he, hcs⟩
  · left; simp
  · right
    by_cases hcl : cap = l
    · have hle : l = k := by omega
      subst hle
      refine ⟨b, o, [], by simp [hcl], hb, hlt, ?_, Cells.nil _ _ _⟩
      have : (xs.take l).drop l = [] := List.eq_nil_of_length_eq_zero (by rw [hlen]; omega)
      rw [this]
      exact .nil
    · refine ⟨b, o + l * t.size, (us.take k).drop l, by simp [hcl, add_none], hb, hlt, (he.take k).drop l, ?_⟩
      have hsz := he.mem (n := t.size) (fun u x h => t.sz h)
      rw [flat_drop l (fun u hu => hsz u (List.mem_of_mem_take hu)), flat_take k hsz]
      exact (hcs.take _).drop _
end
theorem each_u8 {P : Nat → Prop} {w : World} (l : Bs) : Each (tByte.rep P w) (l.map u8) l := Each.map u8 (fun _ => rfl) l
theorem flat_u8 (l : Bs) : flat (l.map u8) = l.map u8 := flat_one (by simp [Value.oneCell'])
theorem Sl.bytes {P : Nat → Prop} {w : World} {v : Value} {l : Bs} (h : tBytes.rep P w v l) : l.length < Lim ∧ ∃ a cap, v = .slice a l.length cap ∧ l.length ≤ cap ∧ ((l = [] ∧ cap = 0) ∨ ∃ b o, a = some ⟨b, o, none⟩ ∧ P b ∧ b < w.heap.size ∧ Cells w b o (l.map u8)) := by
  obtain ⟨hl, a, cap, rfl, hc, h⟩ := h
  refine ⟨hl, a, cap, rfl, hc, ?_⟩
  rcases h with h | ⟨b, o, us, rfl, hb, hlt, he, hcs⟩
  · exact .inl h
  · have : us = l.map u8 := Each.eq_map u8 he
    subst this
    rw [flat_u8] at hcs
    exact .inr ⟨b, o, rfl, hb, hlt, hcs⟩
theorem Sl.byteAt {P : Nat → Prop} {w : World} {a : Option Addr} {n cap : Nat} {l : Bs} (h : tBytes.rep P w (.slice a n cap) l) {k : Nat} (hk : k < l.length) : ∃ b o, a = some ⟨b, o, none⟩ ∧ P b ∧ w.cell? ⟨b, o + k, none⟩ = some (u8 l[k]) := by
  obtain ⟨_, a', cap', hv, _, h⟩ := Sl.bytes h
  cases hv
  rcases h with ⟨rfl, _⟩ | ⟨b, o, rfl, hb, _, hc⟩
  · simp at hk
  · exact ⟨b, o, rfl, hb, hc k _ (by simp [hk])⟩
theorem Sl.mkBytes {P : Nat → Prop} {w : World} {b o cap n : Nat} {l : Bs} (hc : Cells w b o (l.map u8)) (hb : P b) (hlt : b < w.heap.size) (hcap : l.length ≤ cap) (hl : l.length < Lim) (hn : n = l.length) : tBytes.rep P w (.slice (some ⟨b, o, none⟩) n cap) l :=
  Sl.mk (each_u8 l) (by rw [flat_u8]; exact hc) hb hlt hcap hl hn
theorem Sl.cellAt {α : Type} {t : Ty α} {P : Nat → Prop} {w : World} {a : Option Addr} {n cap : Nat} {xs : List α} (h : (Sl t).rep P w (.slice a n cap) xs) (h1 : t.size = 1) (f : α → Value) (hf : ∀ u x, t.rep P w u x → u = f x ∧ (f x).cells = #[f x]) {k : Nat} (hk : k < xs.length) :
    ∃ b o, a = some ⟨b, o, none⟩ ∧ P b ∧ w.cell? ⟨b, o + k, none⟩ = some (f xs[k]) ∧ t.rep P w (f xs[k]) xs[k] := by
  obtain ⟨b, o, cap', u, hv, hb, hc, hr⟩ := Sl.at h (List.getElem?_eq_getElem hk)
  cases hv
  obtain ⟨rfl, h2⟩ := hf _ _ hr
  refine ⟨b, o, rfl, hb, ?_, hr⟩
  rw [h2, h1, Nat.mul_one] at hc
  exact hc 0 _ rfl
theorem Sl.strAt {P : Nat → Prop} {w : World} {a : Option Addr} {n cap : Nat} {xs : List Bs} (h : tStrs.rep P w (.slice a n cap) xs) {k : Nat} (hk : k < xs.length) : ∃ b o, a = some ⟨b, o, none⟩ ∧ P b ∧ w.cell? ⟨b, o + k, none⟩ = some (str xs[k]) ∧ xs[k].length < Lim := by
  obtain ⟨b, o, h1, h2, h3, h4⟩ := Sl.cellAt h rfl str (fun u x hx => ⟨hx.1, rfl⟩) hk
  exact ⟨b, o, h1, h2, h3, h4.2⟩
theorem Sl.intAt {P : Nat → Prop} {w : World} {a : Option Addr} {n cap : Nat} {xs : List Int} (h : tInts.rep P w (.slice a n cap) xs) {k : Nat} (hk : k < xs.length) : ∃ b o, a = some ⟨b, o, none⟩ ∧ P b ∧ w.cell? ⟨b, o + k, none⟩ = some (i64 xs[k]) ∧ (-9223372036854775808 ≤ xs[k] ∧ xs[k] ≤ 9223372036854775807) := by
  obtain ⟨b, o, h1, h2, h3, h4⟩ := Sl.cellAt h rfl i64 (fun u x hx => ⟨hx.1, rfl⟩) hk
  exact ⟨b, o, h1, h2, h3, h4.2⟩
theorem Sl.mkInts {P : Nat → Prop} {w : World} {b cap n : Nat} {E : TypeId} {l : List Int} {cs : List Value} (hB : Blk w b E cs) (hcs : cs.take l.length = l.map i64) (hr : ∀ x ∈ l, -9223372036854775808 ≤ x ∧ x ≤ 9223372036854775807) (hb : P b) (hcap : l.length ≤ cap) (hl : l.length < Lim) (hn : n = l.length) :
    tInts.rep P w (.slice (some ⟨b, 0, none⟩) n cap) l :=
  Sl.mk (us := l.map i64) (Each.mapMem i64 (fun x hx => show tInt.rep P w (i64 x) x from ⟨rfl, hr x hx⟩)) (by rw [flat_one (by simp [Value.oneCell']), ← hcs]; exact hB.cells.take _) hb hB.lt hcap hl hn
theorem Sl.mkBytesB {P : Nat → Prop} {w : World} {b cap n : Nat} {E : TypeId} {l : Bs} {cs : List Value} (hB : Blk w b E cs) (hcs : cs.take l.length = l.map u8) (hb : P b) (hcap : l.length ≤ cap) (hl : l.length < Lim) (hn : n = l.length) :
    tBytes.rep P w (.slice (some ⟨b, 0, none⟩) n cap) l :=
  Sl.mkBytes (by rw [← hcs]; exact hB.cells.take _) hb hB.lt hcap hl hn
end Go.Proofs.YthliepcjfnjnoaaGreatDoor
namespace Go.Proofs.YthliepcjfnjnoaaGreatDoor
open Go
structure New (w w2 : World) (E : TypeId) (cs : List Value) : Prop where
  blk : Blk w2 w.heap.size E cs
  ext : Ext (fun _ => False) w w2
  size : w2.heap.size = w.heap.size + 1
theorem New.alloc (w : World) (E : TypeId) (cs : List Value) : New w (w.alloc (.cells cs.toArray E)) E cs := ⟨Blk.alloc w cs E, Ext.alloc w _, by simp⟩
theorem New.ext0 {S : Nat → Prop} {w w2 : World} {E : TypeId} {cs : List Value} (N : New w w2 E cs) : Ext S w w2 := N.ext.mono (fun _ _ h => h.elim)
structure Put (w w2 : World) (b : Nat) (E : TypeId) (cs : List Value) : Prop where
  blk : Blk w2 b E cs
  ext : Ext (· = b) w w2
  size : w2.heap.size = w.heap.size
section
variable {P : Program} {e : Env} {w : World} {x y z : Operand} {T T' E : TypeId} {v u : Value}
theorem DoV.make {n : Int} {k k' : IntKind} {ti : TypeInfo} {z0 : Value} {n1 n2 : Operand} (h1 : look e n1 = some (.int k n)) (h2 : look e n2 = some (.int k' n)) (hT : P.underlying T = some (.slice E)) (hE : P.info? E = some ti) (hz : ti.zero = some z0) (hs : ti.size = 1) (hc : z0.cells = #[z0]) {eb : Nat} (hby : ti.bytes = eb)
    (hn : 0 ≤ n ∧ (eb : Int) * n ≤ 281474976710656 ∧ n ≤ 9223372036854775807) :
    DoV P e (.makeSlice T n1 n2) w (fun v w2 => v = .slice (some ⟨w.heap.size, 0, none⟩) n.toNat n.toNat ∧ New w w2 E (List.replicate n.toNat z0)) := by
  intro w' hw ρ hρ o ho
  subst hby
  have hr := run_make (P := P) w' T E ti z0 hT hE hz k k' n n hn.1 (Int.le_refl _) hn.2.1 hn.2.2
  refine ⟨.slice (some ⟨w.heap.size, 0, none⟩) n.toNat n.toNat, w.alloc (.cells (List.replicate n.toNat z0).toArray E), w'.alloc (.cells (List.replicate n.toNat z0).toArray E), ?_, hw.alloc _, rfl, New.alloc _ _ _⟩
  have h3 : madeCells z0.cells (n.toNat * ti.size) = (List.replicate n.toNat z0).toArray := by
    apply Array.ext'
    rw [hc, hs, Nat.mul_one, toList_madeCells_one]
  rw [h3] at hr
  simp only [execOp, ho, hρ _ _ h1, hρ _ _ h2, Sem.run_bind, hr, Result.andThen_ok, hw.heap]
  rfl
theorem DoV.alloc {ti : TypeInfo} {z0 : Value} (hE : P.info? T = some ti) (hz : ti.zero = some z0) :
    DoV P e (.alloc T) w (fun v w2 => v = .pointer (some ⟨w.heap.size, 0, none⟩) ∧ New w w2 T z0.cells.toList) := by
  intro w' hw ρ hρ o ho
  refine ⟨_, w.alloc (.cells z0.cells.toList.toArray T), w'.alloc (.cells z0.cells.toList.toArray T), ?_, hw.alloc _, rfl, New.alloc _ _ _⟩
  simp [execOp, ho, Instr.alloc, zeroValue, typeInfo, hE, hz, newVar, newRow, hw.heap]
theorem DoV.box (hx : look e x = some v) :
    DoV P e (.box T x) w (fun p w2 => p = .pointer (some ⟨w.heap.size, 0, none⟩) ∧ New w w2 T v.cells.toList) := by
  intro w' hw ρ hρ o ho
  refine ⟨_, w.alloc (.cells v.cells.toList.toArray T), w'.alloc (.cells v.cells.toList.toArray T), ?_, hw.alloc _, rfl, New.alloc _ _ _⟩
  simp [execOp, ho, hρ _ _ hx, Instr.box, newVar, newRow, hw.heap]
theorem DoS.store {b i : Nat} {cs : List Value} {ti : TypeInfo} (hp : look e x = some (.pointer (some ⟨b, i, none⟩))) (hv : look e y = some u) (hT : P.info? T = some ti) (hs : ti.size = 1) (hu : u.oneCell' = true) (hb : Blk w b E cs) (hi : i < cs.length) :
    DoS P e (.store T x y) w (fun w2 => Put w w2 b E (cs.set i u)) := by
  intro w' hw ρ hρ o ho
  have hb' : Blk w' b E cs := hb.keep (by rw [hw.heap])
  have hr := storeVar_one (P := P) hb' hi hu hT hs
  refine ⟨w.setCell ⟨b, i, none⟩ u, w'.setCell ⟨b, i, none⟩ u, ?_, hw.setCell _ _, hb.set i u, Ext.setCell (S := (· = b)) w (p := ⟨b, i, none⟩) rfl u, by simp⟩
  simp [execOp, ho, hρ _ _ hp, hρ _ _ hv, Instr.storeAt, Instr.sureAddr, hr]
theorem Same.putCells {w w' : World} (h : Same w w') (b : Nat) : ∀ (vs : List Value) (o : Nat), Same (putCells w b o vs) (putCells w' b o vs) := by
  intro vs
  induction vs generalizing w w' with
  | nil => intro o; exact h
  | cons v r ih => intro o; exact ih (h.setCell _ _) (o + 1)
theorem DoS.storeA {b i : Nat} {cs us : List Value} {n : Nat} (hp : look e x = some (.pointer (some ⟨b, i, none⟩))) (hv : look e y = some (.agg us.toArray)) (hs : sizeIs P T n) (hn : us.length = n) (hu : us.all (·.oneCell') = true) (hb : Blk w b E cs) (hi : i + us.length ≤ cs.length) :
    DoS P e (.store T x y) w (fun w2 => Put w w2 b E (cs.take i ++ us ++ cs.drop (i + us.length))) := by
  intro w' hw ρ hρ o ho
  subst hn
  have hb' : Blk w' b E cs := hb.keep (by rw [hw.heap])
  have hr := run_putCells (P := P) us i 0 hb' (by omega) (fun v hv => by simpa using List.all_eq_true.1 hu v hv)
  rw [← splice_eq us cs i hi]
  refine ⟨putCells w b i us, putCells w' b i us, ?_, hw.putCells b us i, hb.put us i, putCells_ext us w b i, putCells_size us w b i⟩
  simp [execOp, ho, hρ _ _ hp, hρ _ _ hv, Instr.storeAt, Instr.sureAddr, storeVar, hs.run, Value.cells, hr]
theorem DoS.storeAll {b : Nat} {cs us : List Value} {n : Nat} (hp : look e x = some (.pointer (some ⟨b, 0, none⟩))) (hv : look e y = some (.agg us.toArray)) (hs : sizeIs P T n) (hn : us.length = n) (hu : us.all (·.oneCell') = true) (hb : Blk w b E cs) (hi : us.length = cs.length) :
    DoS P e (.store T x y) w (fun w2 => Put w w2 b E us) := by
  have h := DoS.storeA (T := T) hp hv hs hn hu hb (by omega)
  have : cs.take 0 ++ us ++ cs.drop (0 + us.length) = us := by
    rw [List.drop_of_length_le (by omega)]
    simp
  rwa [this] at h
theorem look_pairs {e : Env} {ρ : Operand → Value} (hρ : ∀ x u, look e x = some u → ρ x = u) : ∀ (ps : List (Nat × Operand)) (vs : List (Nat × Value)), ps.mapM (fun p => (look e p.2).map (fun v => (p.1, v))) = some vs → ps.map (fun p => (p.1, ρ p.2)) = vs
  | [], vs, h => by simpa using h
  | p :: ps, vs, h => by
    simp only [List.mapM_cons, Option.pure_def, Option.bind_eq_bind] at h
    cases hx : look e p.2 with
    | none => simp [hx] at h
    | some u =>
      cases hr : ps.mapM (fun p => (look e p.2).map (fun v => (p.1, v))) with
      | none => simp [hx, hr] at h
      | some us =>
        simp [hx, hr] at h
        subst h
        simp [hρ p.2 u hx, look_pairs hρ ps us hr]
theorem Ev.build {ps : List (Nat × Operand)} {vs : List (Nat × Value)} {cs : List Value} (hp : ps.mapM (fun p => (look e p.2).map (fun v => (p.1, v))) = some vs) (hb : ∀ w, (Instr.build T vs.toArray).run P w = .ok (.agg cs.toArray) w) :
    Ev P e (.build T ps.toArray) w (.agg cs.toArray) :=
  fun w' hw ρ hρ o ho => by
    have := look_pairs hρ ps vs hp
    simp only [execOp, ho, Sem.run_bind, List.map_toArray, this, hb, Result.andThen_ok]
    rfl
theorem Ev.bytesStr {Q : Nat → Prop} {l : Bs} (hx : look e x = some v) (hr : tBytes.rep Q w v l) (hT : P.underlying T = some (.slice E)) (hE : P.underlying E = some (.int .u8)) (hT' : P.underlying T' = some .string) : Ev P e (.convert T T' x) w (str l) := by
  intro w' hw ρ hρ o ho
  obtain ⟨hl, a, cap, rfl, hc, h⟩ := Sl.bytes hr
  rcases h with ⟨rfl, rfl⟩ | ⟨b, off, rfl, hb, hlt, hcs⟩
  · cases a with
    | none =>
      simp only [execOp, ho, hρ _ _ hx, Sem.run_bind, run_convert_bytes_nil (P := P) w' T E hT hE _ _ T' hT', Result.andThen_ok]
      rfl
    | some a =>
      have h2 := run_bytesToString (P := P) w' a 0 0 [] rfl
      simp only [execOp, ho, hρ _ _ hx, Sem.run_bind, List.length_nil, run_convert_bytes_string (P := P) w' T T' E _ _ _ hT hE hT', h2, Result.andThen_ok]
      rfl
  · have hl : (loadCells ⟨b, off, none⟩ l.length).run P w' = .ok ((l.map fun c => (c.toNat : Int)).map (Value.int .u8)).toArray w' := by
      have := hcs.load P hw
      rw [List.length_map] at this
      rw [this, List.map_map]
      rfl
    have h2 := run_bytesToString (P := P) w' ⟨b, off, none⟩ l.length cap (l.map fun c => (c.toNat : Int)) hl
    simp only [execOp, ho, hρ _ _ hx, Sem.run_bind, run_convert_bytes_string (P := P) w' T T' E _ _ _ hT hE hT', h2, Result.andThen_ok]
    have h3 : (l.map fun c => (c.toNat : Int)).foldl (fun r n => r.push (UInt8.ofNat n.toNat)) ByteArray.empty = bs l := by
      rw [foldl_push_bytes]
      apply ByteArray.ext
      apply Array.ext'
      show ([] : List UInt8).toArray.toList ++ _ = l
      rw [List.map_map]
      have : (fun n : Int => UInt8.ofNat n.toNat) ∘ (fun c : UInt8 => (c.toNat : Int)) = id := by funext c; simp
      rw [this]
      simp
    rw [h3]
    rfl
theorem DoV.strBytes {l : Bs} (hx : look e x = some (str l)) (hT : P.underlying T = some .string) (hT' : P.underlying T' = some (.slice E)) (hE : P.underlying E = some (.int .u8)) :
    DoV P e (.convert T T' x) w (fun v w2 => ∃ cap cs, v = .slice (some ⟨w.heap.size, 0, none⟩) l.length cap ∧ l.length ≤ cap ∧ cs.length = cap ∧ cs.take l.length = l.map u8 ∧ New w w2 E cs) := by
  intro w' hw ρ hρ o ho
  have hcap : ∀ t : Nat, l.length ≤ l.length + t % (2 ^ 63 - l.length) := fun t => by omega
  generalize hc : l.length + w'.tape w'.drawn (.appendCap l.length 0 E) % (2 ^ 63 - l.length) = cap
  have hge : l.length ≤ cap := by omega
  let cs := l.map u8 ++ List.replicate (cap - l.length) (Value.int .u8 0)
  have hlen : cs.length = cap := by simp [cs]; omega
  have hsh : (({ w' with drawn := w'.drawn + 1 } : World).alloc (.cells cs.toArray E)).shape? w.heap.size = some (E, cap) := by
    rw [← hw.heap]
    simp [World.shape?, World.alloc, hlen]
  let w3 : World := (({ w' with drawn := w'.drawn + 1 } : World).alloc (.cells cs.toArray E)).freeze ⟨w.heap.size, cap, none⟩ 1
  let w2 : World := (w.alloc (.cells cs.toArray E)).freeze ⟨w.heap.size, cap, none⟩ 1
  have hfz : ∀ u : World, u.heap.size = w.heap.size → (u.alloc (.cells cs.toArray E)).freeze ⟨w.heap.size, cap, none⟩ 1 = { u with heap := u.heap.push (.cells cs.toArray E (cap, cap + 1)) } := fun u hu => by
    simp only [World.freeze, World.alloc]
    simp only [Nat.one_ne_zero, if_false]
    congr 1
    apply Array.ext_getElem?
    intro i
    simp only [Array.getElem?_modify, Array.getElem?_push, hu]
    by_cases hi : w.heap.size = i
    · simp [hi]
    · rw [if_neg hi, if_neg (fun h => hi h.symm), if_neg (fun h => hi h.symm)]
  refine ⟨.slice (some ⟨w.heap.size, 0, none⟩) l.length cap, w2, w3, ?_, ?_, cap, cs, rfl, hge, hlen, by simp [cs], ?_⟩
  · have hels : (bs l).data.map (fun b : UInt8 => Value.int .u8 (b.toNat : Int)) = (l.map u8).toArray := by simp [bs]
    have hcs : (l.map u8).toArray ++ Array.replicate (cap - l.length) (Value.int .u8 0) = cs.toArray := by
      apply Array.ext'; simp [cs]
    simp only [execOp, ho, hρ _ _ hx, Sem.run_bind, convert, run_underlying hT, run_underlying hT', run_underlying hE, Result.andThen_ok, Conv.stringToBytes, bs_size, run_choose, Question.forced, Bool.false_eq_true, if_false, Question.cut, hc, hels, hcs, newRow, run_newObj, markStringish, Sem.run_pure]
    have h5 : ({ w' with drawn := w'.drawn + 1 } : World).heap.size = w.heap.size := by rw [← hw.heap]
    have h6 : ({ w' with heap := w'.heap.push (Obj.cells cs.toArray E), drawn := w'.drawn + 1 } : World).shape? w.heap.size = some (E, cap) := hsh
    simp only [hw.heap] at h6 ⊢
    simp [h6, w3, World.alloc, hw.heap]
  · refine ⟨?_, hw.os, hw.tape, hw.output⟩
    show w3.heap = w2.heap
    simp only [w3, w2, hfz w rfl, hfz _ (show ({ w' with drawn := w'.drawn + 1 } : World).heap.size = w.heap.size by rw [← hw.heap]), hw.heap]
  · refine ⟨⟨(cap, cap + 1), .inl ⟨?_, by omega⟩⟩, ?_, ?_⟩
    · simp only [w2, hfz w rfl]
      simp
    · simp only [w2, hfz w rfl]
      exact ⟨rfl, rfl, rfl, by simp, fun k hk _ => by rw [Array.getElem?_push, if_neg (by omega)]⟩
    · simp only [w2, hfz w rfl]
      simp
end
theorem strBytes_rep {w w2 : World} {E : TypeId} {l : Bs} {cap : Nat} {cs : List Value} (hl : l.length < Lim) (h1 : l.length ≤ cap) (h3 : cs.take l.length = l.map u8) (N : New w w2 E cs) :
    tBytes.rep (fun k => w.heap.size ≤ k) w2 (.slice (some ⟨w.heap.size, 0, none⟩) l.length cap) l :=
  Sl.mkBytes (by rw [← h3]; exact N.blk.cells.take _) (Nat.le_refl _) N.blk.lt h1 hl rfl
end Go.Proofs.YthliepcjfnjnoaaGreatDoor
namespace Go.Proofs.YthliepcjfnjnoaaGreatDoor
open Go
def Own {α : Type} (t : Ty α) (Q : Nat → Prop) (E : TypeId) (w : World) (v : Value) (xs : List α) (b : Nat) : Prop :=
  xs.length < Lim ∧ ((xs = [] ∧ v = .slice none 0 0) ∨
    ∃ cap us sp, v = .slice (some ⟨b, 0, none⟩) xs.length cap ∧ xs.length ≤ cap ∧ Each (t.rep Q w) us xs ∧ Blk w b E (flat us ++ sp) ∧ (flat us ++ sp).length = cap * t.size)
section
variable {α : Type} {t : Ty α} {Q : Nat → Prop} {E : TypeId} {w w' : World} {v : Value} {xs ys : List α} {b : Nat}
theorem Own.nil : Own t Q E w (.slice none 0 0) [] b := ⟨by show 0 < Lim; decide, .inl ⟨rfl, rfl⟩⟩
theorem Own.ext {S : Nat → Prop} (h : Own t Q E w v xs b) (hx : Ext S w w') (hs : ¬ S b) (hq : ∀ k, Q k → k < w.heap.size → ¬ S k) : Own t Q E w' v xs b := by
  obtain ⟨hl, h | ⟨cap, us, sp, hv, hc, he, hb, hn⟩⟩ := h
  · exact ⟨hl, .inl h⟩
  · exact ⟨hl, .inr ⟨cap, us, sp, hv, hc, he.imp (fun u x hu => t.ext hu hx hq), hb.ext hx hs, hn⟩⟩
theorem Own.ext0 (h : Own t Q E w v xs b) (hx : Ext (fun _ => False) w w') : Own t Q E w' v xs b := h.ext hx (fun x => x) (fun _ _ _ x => x)
theorem Own.mono {Q' : Nat → Prop} (h : Own t Q E w v xs b) (hq : ∀ k, Q k → k < w.heap.size → Q' k) : Own t Q' E w v xs b := by
  obtain ⟨hl, h | ⟨cap, us, sp, hv, hc, he, hb, hn⟩⟩ := h
  · exact ⟨hl, .inl h⟩
  · exact ⟨hl, .inr ⟨cap, us, sp, hv, hc, he.imp (fun u x hu => t.mono hu hq), hb, hn⟩⟩
theorem Own.rep {Q' : Nat → Prop} (h : Own t Q E w v xs b) (hb : Q' b) (hq : ∀ k, Q k → k < w.heap.size → Q' k) : (Sl t).rep Q' w v xs := by
  obtain ⟨hl, ⟨rfl, rfl⟩ | ⟨cap, us, sp, rfl, hc, he, hB, hn⟩⟩ := h
  · exact Sl.nil
  · exact Sl.mk (he.imp (fun u x hu => t.mono hu hq)) hB.cells.left hb hB.lt hc hl rfl
theorem Own.lt (h : Own t Q E w v xs b) (hne : xs ≠ []) : b < w.heap.size := by
  obtain ⟨hl, ⟨rfl, rfl⟩ | ⟨cap, us, sp, rfl, hc, he, hB, hn⟩⟩ := h
  · exact absurd rfl hne
  · exact hB.lt
theorem Own.lim (h : Own t Q E w v xs b) : xs.length < Lim := h.1
theorem Own.val (h : Own t Q E w v xs b) : ∃ a cap, v = .slice a xs.length cap ∧ xs.length ≤ cap := by
  obtain ⟨hl, ⟨rfl, rfl⟩ | ⟨cap, us, sp, rfl, hc, _⟩⟩ := h
  · exact ⟨none, 0, rfl, Nat.le_refl _⟩
  · exact ⟨_, cap, rfl, hc⟩
def Holds {α : Type} (t : Ty α) (Q : Nat → Prop) (w : World) (v : Value) (xs : List α) : Prop :=
  (xs = [] ∧ ∃ cap, v = .slice none 0 cap) ∨ ∃ b o cap us, v = .slice (some ⟨b, o, none⟩) xs.length cap ∧ Each (t.rep Q w) us xs ∧ Cells w b o (flat us)
theorem Sl.holds {Q' : Nat → Prop} (h : (Sl t).rep Q' w v xs) (hq : ∀ u x, t.rep Q' w u x → t.rep Q w u x) : (∃ a cap, v = .slice a 0 cap ∧ xs = []) ∨ Holds t Q w v xs := by
  obtain ⟨_, a, cap, rfl, hc, ⟨rfl, rfl⟩ | ⟨b, o, us, rfl, hb, hlt, he, hcs⟩⟩ := h
  · exact .inl ⟨a, 0, rfl, rfl⟩
  · exact .inr (.inr ⟨b, o, cap, us, rfl, he.imp hq, hcs⟩)
theorem New.holds {us : List Value} (N : New w w' E (flat us)) (he : Each (t.rep Q w) us xs) {n cap : Nat} (hn : n = xs.length) : Holds t Q w' (.slice (some ⟨w.heap.size, 0, none⟩) n cap) xs :=
  .inr ⟨w.heap.size, 0, cap, us, by rw [hn], he.imp (fun u x h => t.ext0 h N.ext), N.blk.cells⟩
theorem Own.ofNew {us : List Value} (N : New w w' E (flat us)) (he : Each (t.rep Q w) us xs) (hl : xs.length < Lim) {n cap : Nat} (hn : n = xs.length) (hc : cap = xs.length) : Own t Q E w' (.slice (some ⟨w.heap.size, 0, none⟩) n cap) xs w.heap.size := by
  subst hn; subst hc
  refine ⟨hl, .inr ⟨xs.length, us, [], rfl, Nat.le_refl _, he.imp (fun u x h => t.ext0 h N.ext), by rw [List.append_nil]; exact N.blk, ?_⟩⟩
  rw [List.append_nil, flat_length (he.mem (n := t.size) (fun u x h => t.sz h)), he.length]
end
theorem each_int {P : Nat → Prop} {w : World} {l : List Int} (h : ∀ x ∈ l, -9223372036854775808 ≤ x ∧ x ≤ 9223372036854775807) : Each (tInt.rep P w) (l.map i64) l := Each.mapMem i64 (fun x hx => ⟨rfl, h x hx⟩)
theorem putCells_setCells (b : Nat) : ∀ (vs : List Value) (o : Nat) (w : World), putCells w b o vs = w.setCells b o vs
  | [], _, _ => rfl
  | v :: r, o, w => by rw [putCells, World.setCells, putCells_setCells b r]
section
variable {P : Program} {e : Env} {w : World} {x y : Operand} {T Tr E : TypeId} {v u : Value} {α : Type} {t : Ty α} {Q : Nat → Prop} {xs ys : List α} {b : Nat}
theorem each_one {us : List Value} {R : Value → α → Prop} (h : Each R us xs) (hr : ∀ u x, R u x → ∀ c ∈ u.cells.toList, c.oneCell' = true) : ∀ c ∈ flat us, c.oneCell' = true := by
  induction h with
  | nil => intro c hc; cases hc
  | cons h1 _ ih =>
    intro c hc
    rw [flat_cons, List.mem_append] at hc
    rcases hc with hc | hc
    · exact hr _ _ h1 c hc
    · exact ih c hc
theorem run_append_call {ρ : Operand → Value} {ats : Array TypeId} {w w' : World} {o : Oper} (ho : o.op = .call { callee := .builtin .append, args := #[x, y], argTypes := ats }) {r : Value} (h : (Builtin.append_ ats o.type #[ρ x, ρ y]).run P w = .ok r w') :
    (execOp ρ o).run P w = .ok (.value r) w' := by
  simp [execOp, ho, resolve, invoke, builtin, h]
theorem DoV.appendOf {i : TypeInfo} {z : Value} {eb : Nat} {T' : TypeId} (hx : look e x = some v) (hv : Own t Q E w v xs b) (hy : look e y = some u) (hsrc0 : ∀ w', Same w w' → ∃ us, Each (t.rep Q w) us ys ∧ Src P t.size T' u ys.length (flat us) w')
    (hT : P.underlying T = some (.slice E)) (hi : P.info? E = some i) (hz : i.zero = some z) (hs : i.size = t.size) (hzs : z.cells.size = t.size) (hby : i.bytes = eb) (hlim : (xs.length + ys.length) * eb ≤ 140737488355328) (hlen : xs.length + ys.length < Lim) (hq : ∀ k, Q k → k < w.heap.size → k ≠ b) :
    DoV P e (.call { callee := .builtin .append, args := #[x, y], argTypes := #[T, T'] }) w (fun r w2 => ∃ b', Own t (fun k => Q k ∧ k ≠ b') E w2 r (xs ++ ys) b' ∧ Ext (· = b) w w2 ∧ (b' = b ∨ b' = w.heap.size)) := by
  intro w' hw ρ hρ o ho
  subst hby
  have hsrc := hsrc0 w' hw
  rw [← hs] at hsrc
  obtain ⟨us, hes, hsrc⟩ := hsrc
  have husl : (flat us).length = ys.length * t.size := by rw [flat_length (hes.mem (n := t.size) (fun u x h => t.sz h)), hes.length]
  obtain ⟨hl, hown⟩ := hv
  have hgrow : ∀ (base : Option Addr) (sCap : Nat) (vs : List Value), v = .slice base xs.length sCap → (Builtin.firstCells i.size xs.length (.slice base xs.length sCap)).run P w'.drew = .ok (flat vs).toArray w'.drew → Each (t.rep Q w) vs xs → sCap < xs.length + ys.length →
      ∃ r w2 w3, (execOp ρ o).run P w' = .ok (.value r) w3 ∧ Same w2 w3 ∧ ∃ b', Own t (fun k => Q k ∧ k ≠ b') E w2 r (xs ++ ys) b' ∧ Ext (· = b) w w2 ∧ (b' = b ∨ b' = w.heap.size) := by
    intro base sCap vs hvv hfc hev hg
    have hge := grownCap_ge w' (xs.length + ys.length) sCap E
    generalize hcap : grownCap w' (xs.length + ys.length) sCap E = cap at hge
    have hr := run_append_grow_src (P := P) w' T T' o.type E i z hT hi hz base xs.length sCap (flat vs) hfc u ys.length (flat us) hsrc hg (by simp only [Lim] at hlen; omega) (growslice_fits hg hlim)
    rw [hcap] at hr
    have hcs : (flat vs ++ flat us).toArray ++ Builtin.zeroCells z.cells (cap - (xs.length + ys.length)) = (flat (vs ++ us) ++ (Builtin.zeroCells z.cells (cap - (xs.length + ys.length))).toList).toArray := by
      apply Array.ext'; simp [flat_append]
    rw [hcs] at hr
    let cs := flat (vs ++ us) ++ (Builtin.zeroCells z.cells (cap - (xs.length + ys.length))).toList
    have hext : Ext (fun _ => False) w (w.alloc (.cells cs.toArray E)) := Ext.alloc w _
    have hsz : (w.alloc (.cells cs.toArray E)).heap.size = w.heap.size + 1 := by simp
    refine ⟨.slice (some ⟨w.heap.size, 0, none⟩) (xs.length + ys.length) cap, w.alloc (.cells cs.toArray E), w'.drew.alloc (.cells cs.toArray E), ?_, (hw.trans (same_draw w')).alloc _, w.heap.size, ?_, hext.mono (fun _ _ hf => hf.elim), .inr rfl⟩
    · rw [hw.heap] at hr
      refine run_append_call ho ?_
      rw [hρ _ _ hx, hρ _ _ hy, hvv]
      exact hr
    · refine ⟨by rw [List.length_append]; exact hlen, .inr ⟨cap, vs ++ us, (Builtin.zeroCells z.cells (cap - (xs.length + ys.length))).toList, by rw [List.length_append], by rw [List.length_append]; exact hge, ?_, Blk.alloc _ _ _, ?_⟩⟩
      · exact (hev.append hes).imp (fun u x h => t.ext0 (t.mono h (fun k hk hlt => ⟨hk, Nat.ne_of_lt hlt⟩)) hext)
      · have h1 := hev.append hes
        rw [List.length_append, flat_length (h1.mem (n := t.size) (fun u x h => t.sz h)), h1.length, show (Builtin.zeroCells z.cells (cap - (xs.length + ys.length))).toList.length = (cap - (xs.length + ys.length)) * t.size by rw [Array.length_toList, size_zeroCells, hzs], List.length_append, ← Nat.add_mul]
        congr 1
        omega
  rcases hown with ⟨rfl, rfl⟩ | ⟨cap, us0, sp, rfl, hc0, he0, hB, hn0⟩
  · by_cases h0 : ys = []
    · subst h0
      refine ⟨.slice none 0 0, w, w', run_append_call ho ?_, hw, b, Own.nil, .refl w, .inl rfl⟩
      rw [hρ _ _ hx, hρ _ _ hy]
      have hus : us = [] := by cases hes; rfl
      subst hus
      exact run_append_nothing (P := P) w' T T' o.type E i hT hi none 0 0 (Nat.le_refl _) u hsrc
    · exact hgrow none 0 [] rfl (by exact run_firstCells_none w'.drew i.size 0 0 0) .nil (by have := List.length_pos_iff.2 h0; simp; omega)
  · by_cases hroom : xs.length + ys.length ≤ cap
    · have hul : (flat us0).length = xs.length * t.size := by rw [flat_length (he0.mem (n := t.size) (fun u x h => t.sz h)), he0.length]
      have hfit : xs.length * t.size + (flat us).length ≤ (flat us0 ++ sp).length := by
        rw [hn0, husl, ← Nat.add_mul]
        exact Nat.mul_le_mul_right _ hroom
      have hB' : Blk w' b E (flat us0 ++ sp) := hB.keep (by rw [hw.heap])
      have h1 : ∀ u ∈ flat us, u.oneCell' = true := each_one hes (fun u x h => t.one h)
      have hr := run_append_room_src (P := P) w' T T' o.type E i hT hi b 0 xs.length cap u ys.length (flat us) hsrc hroom
        (fun j hj => by rw [hB'.cell, hs, Nat.zero_add]; rw [List.getElem?_eq_getElem (by omega)]; rfl) (fun j hj => hB'.thawed _ (by rw [hs]; omega))
      rw [← putCells_setCells, hs, Nat.zero_add] at hr
      refine ⟨.slice (some ⟨b, 0, none⟩) (xs.length + ys.length) cap, putCells w b (xs.length * t.size) (flat us), putCells w' b (xs.length * t.size) (flat us), run_append_call ho ?_, hw.putCells b _ _, b, ?_, putCells_ext _ _ _ _, .inl rfl⟩
      · rw [hρ _ _ hx, hρ _ _ hy]
        exact hr
      · have hb2 := hB.put (flat us) (xs.length * t.size)
        rw [splice_eq _ _ _ hfit] at hb2
        have e1 : (flat us0 ++ sp).take (xs.length * t.size) ++ flat us ++ (flat us0 ++ sp).drop (xs.length * t.size + (flat us).length) = flat (us0 ++ us) ++ sp.drop (flat us).length := by
          rw [List.take_left' hul, ← List.drop_drop, List.drop_left' hul, flat_append]
        rw [e1] at hb2
        refine ⟨by rw [List.length_append]; exact hlen, .inr ⟨cap, us0 ++ us, sp.drop (flat us).length, by rw [List.length_append], by rw [List.length_append]; exact hroom, ?_, hb2, ?_⟩⟩
        · refine (he0.append hes).imp (fun u x h => ?_)
          have hne := t.mono h (P' := fun k => Q k ∧ k ≠ b) (fun k hk hlt => ⟨hk, hq k hk hlt⟩)
          exact t.ext hne (putCells_ext _ _ _ _) (fun k hk _ => hk.2)
        · have h2 : (flat us0 ++ sp).length = xs.length * t.size + sp.length := by rw [List.length_append, hul]
          rw [List.length_append, List.length_drop, flat_append, List.length_append, hul, ← hn0, h2]
          omega
    · refine hgrow _ cap us0 rfl ?_ he0 (by omega)
      refine run_firstCells_some (P := P) w'.drew i.size xs.length _ _ _ (flat us0) ?_ (fun j u hj => ?_)
      · rw [flat_length (he0.mem (n := t.size) (fun u x h => t.sz h)), he0.length, hs]
      · rw [add_none]
        have hb' : Blk w' b E (flat us0 ++ sp) := hB.keep (by rw [hw.heap])
        have := hb'.cells.left j u hj
        simpa using this
theorem src_holds {T' : TypeId} (hu : (∃ a cap, u = .slice a 0 cap ∧ ys = []) ∨ Holds t Q w u ys) (hT' : P.underlying T' = some (.slice E)) {w' : World} (hw : Same w w') : ∃ us, Each (t.rep Q w) us ys ∧ Src P t.size T' u ys.length (flat us) w' := by
  rcases hu with ⟨a, cap, rfl, rfl⟩ | ⟨rfl, cap, rfl⟩ | ⟨b0, o0, cap, us, rfl, he, hc⟩
  · refine ⟨[], .nil, ?_⟩
    cases a with
    | none => exact Src.ofNil w' hT' cap
    | some a => exact Src.ofSlice w' hT' a 0 cap [] (by simp) (by simp) (by simp)
  · exact ⟨[], .nil, Src.ofNil w' hT' cap⟩
  · refine ⟨us, he, Src.ofSlice w' hT' _ _ _ _ ?_ (fun j u hj => ?_) (each_one he (fun u x h => t.one h))⟩
    · rw [flat_length (he.mem (n := t.size) (fun u x h => t.sz h)), he.length]
    · rw [add_none]
      rw [hw.cell]
      exact hc j u hj
theorem DoV.append {i : TypeInfo} {z : Value} {eb : Nat} {T' : TypeId} (hx : look e x = some v) (hv : Own t Q E w v xs b) (hy : look e y = some u) (hu : (∃ a cap, u = .slice a 0 cap ∧ ys = []) ∨ Holds t Q w u ys)
    (hT : P.underlying T = some (.slice E)) (hT' : P.underlying T' = some (.slice E)) (hi : P.info? E = some i) (hz : i.zero = some z) (hs : i.size = t.size) (hzs : z.cells.size = t.size) (hby : i.bytes = eb) (hlim : (xs.length + ys.length) * eb ≤ 140737488355328) (hlen : xs.length + ys.length < Lim) (hq : ∀ k, Q k → k < w.heap.size → k ≠ b) :
    DoV P e (.call { callee := .builtin .append, args := #[x, y], argTypes := #[T, T'] }) w (fun r w2 => ∃ b', Own t (fun k => Q k ∧ k ≠ b') E w2 r (xs ++ ys) b' ∧ Ext (· = b) w w2 ∧ (b' = b ∨ b' = w.heap.size)) :=
  .appendOf hx hv hy (fun _ hw => src_holds hu hT' hw) hT hi hz hs hzs hby hlim hlen hq
theorem DoV.appendS {i : TypeInfo} {z : Value} {T' : TypeId} {bx l : Bs} (hx : look e x = some v) (hv : Own tByte Q E w v bx b) (hy : look e y = some (str l))
    (hT : P.underlying T = some (.slice E)) (hT' : P.underlying T' = some .string) (hi : P.info? E = some i) (hz : i.zero = some z) (hs : i.size = 1) (hzs : z.cells.size = 1) (hby : i.bytes = 1) (hlen : bx.length + l.length < Lim) (hq : ∀ k, Q k → k < w.heap.size → k ≠ b) :
    DoV P e (.call { callee := .builtin .append, args := #[x, y], argTypes := #[T, T'] }) w (fun r w2 => ∃ b', Own tByte (fun k => Q k ∧ k ≠ b') E w2 r (bx ++ l) b' ∧ Ext (· = b) w w2 ∧ (b' = b ∨ b' = w.heap.size)) :=
  .appendOf (eb := 1) hx hv hy (fun w' hw => ⟨l.map u8, each_u8 l, by
    have h := Src.ofString (P := P) w' hT' (bs l)
    have e1 : byteCells (bs l) = flat (l.map u8) := by rw [flat_u8]; simp [byteCells, bs]
    rw [bs_size, e1] at h
    exact h⟩) hT hi hz hs hzs hby (by simp only [Lim] at hlen; omega) hlen hq
theorem DoV.lits {ps : List (Nat × Operand)} {vs : List (Nat × Value)} {n : Nat} (hp : ps.mapM (fun p => (look e p.2).map (fun v => (p.1, v))) = some vs) (hT : P.underlying T = some (.slice E)) (hb : ∀ w, (Instr.buildSlice T n vs.toArray).run P w = .ok (.slice (some ⟨w.heap.size, 0, none⟩) n n) (w.alloc (.cells (flat (vs.map (·.2))).toArray E))) :
    DoV P e (.buildSlice T n ps.toArray) w (fun v w2 => v = .slice (some ⟨w.heap.size, 0, none⟩) n n ∧ New w w2 E (flat (vs.map (·.2)))) := by
  intro w' hw ρ hρ o ho
  have := look_pairs hρ ps vs hp
  refine ⟨_, w.alloc (.cells (flat (vs.map (·.2))).toArray E), w'.alloc (.cells (flat (vs.map (·.2))).toArray E), ?_, hw.alloc _, rfl, New.alloc _ _ _⟩
  simp only [execOp, ho, Sem.run_bind, List.map_toArray, this, hb, Result.andThen_ok, hw.heap]
  rfl
theorem DoV.buildSlice {ps : List (Nat × Operand)} {vs : List (Nat × Value)} {cs : List Value} {n : Nat} (hp : ps.mapM (fun p => (look e p.2).map (fun v => (p.1, v))) = some vs) (hb : ∀ w, (Instr.buildSlice T n vs.toArray).run P w = .ok (.slice (some ⟨w.heap.size, 0, none⟩) n n) (w.alloc (.cells cs.toArray E))) :
    DoV P e (.buildSlice T n ps.toArray) w (fun v w2 => v = .slice (some ⟨w.heap.size, 0, none⟩) n n ∧ New w w2 E cs) := by
  intro w' hw ρ hρ o ho
  have := look_pairs hρ ps vs hp
  refine ⟨_, w.alloc (.cells cs.toArray E), w'.alloc (.cells cs.toArray E), ?_, hw.alloc _, rfl, New.alloc _ _ _⟩
  simp only [execOp, ho, Sem.run_bind, List.map_toArray, this, hb, Result.andThen_ok, hw.heap]
  rfl
end
end Go.Proofs.YthliepcjfnjnoaaGreatDoor
