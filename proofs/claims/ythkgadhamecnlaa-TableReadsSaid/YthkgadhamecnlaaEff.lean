
/-
  What makes and writes memory: make, variables, literals, append, copy, conversions of texts. No program in sight.
-/
import Derived.Test.YthkgadhamecnlaaRep
set_option linter.unusedVariables false
set_option linter.unusedSimpArgs false
namespace Go.Proofs.Ythkgadhamecnlaa
open Go

/-- one new block, all else as it was -/
structure New (w w2 : World) (E : TypeId) (cs : List Value) : Prop where
  blk : Blk w2 w.heap.size E cs
  ext : Ext (fun _ => False) w w2
  size : w2.heap.size = w.heap.size + 1
theorem New.alloc (w : World) (E : TypeId) (cs : List Value) : New w (w.alloc (.cells cs.toArray E)) E cs := ⟨Blk.alloc w cs E, Ext.alloc w _, by simp⟩
theorem New.ext0 {S : Nat → Prop} {w w2 : World} {E : TypeId} {cs : List Value} (N : New w w2 E cs) : Ext S w w2 := N.ext.mono (fun _ _ h => h.elim)
/-- a block written, all else as it was -/
structure Put (w w2 : World) (b : Nat) (E : TypeId) (cs : List Value) : Prop where
  blk : Blk w2 b E cs
  ext : Ext (· = b) w w2
  size : w2.heap.size = w.heap.size

section
variable {P : Program} {e : Env} {w : World} {x y z : Operand} {T T' E : TypeId} {v u : Value}

theorem DoV.make {n : Int} {k k' : IntKind} {ti : TypeInfo} {z0 : Value} {n1 n2 : Operand} (h1 : look e n1 = some (.int k n)) (h2 : look e n2 = some (.int k' n)) (hT : P.underlying T = some (.slice E)) (hE : P.info? E = some ti) (hz : ti.zero = some z0) (hs : ti.size = 1) (hc : z0.cells = #[z0]) {eb : Nat} (hby : ti.bytes = eb)
    (hn : 0 ≤ n ∧ (eb : Int) * n ≤ 281474976710656 ∧ n ≤ 9223372036854775807) :
    DoV P e (.makeSlice T n1 n2) w (fun v w2 => v = .slice (some ⟨w.heap.size, 0, none⟩) n.toNat n.toNat ∧ New w w2 E (List.replicate n.toNat z0)) := by
  intro w' hw ρ hρ o ho
  subst hby
  have hr := run_make (P := P) w' T E ti z0 hT hE hz k k' n n hn.1 (Int.le_refl _) hn.2.1 hn.2.2
  refine ⟨.slice (some ⟨w.heap.size, 0, none⟩) n.toNat n.toNat, w.alloc (.cells (List.replicate n.toNat z0).toArray E), w'.alloc (.cells (List.replicate n.toNat z0).toArray E), ?_, hw.alloc _, rfl, New.alloc _ _ _⟩
  have h3 : madeCells z0.cells (n.toNat * ti.size) = (List.replicate n.toNat z0).toArray := by
    apply Array.ext'
    rw [hc, hs, Nat.mul_one, toList_madeCells_one]
  rw [h3] at hr
  simp only [execOp, ho, hρ _ _ h1, hρ _ _ h2, Sem.run_bind, hr, Result.andThen_ok, hw.heap]
  rfl
theorem DoV.alloc {ti : TypeInfo} {z0 : Value} (hE : P.info? T = some ti) (hz : ti.zero = some z0) :
    DoV P e (.alloc T) w (fun v w2 => v = .pointer (some ⟨w.heap.size, 0, none⟩) ∧ New w w2 T z0.cells.toList) := by
  intro w' hw ρ hρ o ho
  refine ⟨_, w.alloc (.cells z0.cells.toList.toArray T), w'.alloc (.cells z0.cells.toList.toArray T), ?_, hw.alloc _, rfl, New.alloc _ _ _⟩
  simp [execOp, ho, Instr.alloc, zeroValue, typeInfo, hE, hz, newVar, newRow, hw.heap]
theorem DoV.box (hx : look e x = some v) :
    DoV P e (.box T x) w (fun p w2 => p = .pointer (some ⟨w.heap.size, 0, none⟩) ∧ New w w2 T v.cells.toList) := by
  intro w' hw ρ hρ o ho
  refine ⟨_, w.alloc (.cells v.cells.toList.toArray T), w'.alloc (.cells v.cells.toList.toArray T), ?_, hw.alloc _, rfl, New.alloc _ _ _⟩
  simp [execOp, ho, hρ _ _ hx, Instr.box, newVar, newRow, hw.heap]
theorem DoS.store {b i : Nat} {cs : List Value} {ti : TypeInfo} (hp : look e x = some (.pointer (some ⟨b, i, none⟩))) (hv : look e y = some u) (hT : P.info? T = some ti) (hs : ti.size = 1) (hu : u.oneCell' = true) (hb : Blk w b E cs) (hi : i < cs.length) :
    DoS P e (.store T x y) w (fun w2 => Put w w2 b E (cs.set i u)) := by
  intro w' hw ρ hρ o ho
  have hb' : Blk w' b E cs := hb.keep (by rw [hw.heap])
  have hr := storeVar_one (P := P) hb' hi hu hT hs
  refine ⟨w.setCell ⟨b, i, none⟩ u, w'.setCell ⟨b, i, none⟩ u, ?_, hw.setCell _ _, hb.set i u, Ext.setCell (S := (· = b)) w (p := ⟨b, i, none⟩) rfl u, by simp⟩
  simp [execOp, ho, hρ _ _ hp, hρ _ _ hv, Instr.storeAt, Instr.sureAddr, hr]
theorem Same.putCells {w w' : World} (h : Same w w') (b : Nat) : ∀ (vs : List Value) (o : Nat), Same (putCells w b o vs) (putCells w' b o vs) := by
  intro vs
  induction vs generalizing w w' with
  | nil => intro o; exact h
  | cons v r ih => intro o; exact ih (h.setCell _ _) (o + 1)
theorem DoS.storeA {b i : Nat} {cs us : List Value} {n : Nat} (hp : look e x = some (.pointer (some ⟨b, i, none⟩))) (hv : look e y = some (.agg us.toArray)) (hs : sizeIs P T n) (hn : us.length = n) (hu : us.all (·.oneCell') = true) (hb : Blk w b E cs) (hi : i + us.length ≤ cs.length) :
    DoS P e (.store T x y) w (fun w2 => Put w w2 b E (cs.take i ++ us ++ cs.drop (i + us.length))) := by
  intro w' hw ρ hρ o ho
  subst hn
  have hb' : Blk w' b E cs := hb.keep (by rw [hw.heap])
  have hr := run_putCells (P := P) us i 0 hb' (by omega) (fun v hv => by simpa using List.all_eq_true.1 hu v hv)
  rw [← splice_eq us cs i hi]
  refine ⟨putCells w b i us, putCells w' b i us, ?_, hw.putCells b us i, hb.put us i, putCells_ext us w b i, putCells_size us w b i⟩
  simp [execOp, ho, hρ _ _ hp, hρ _ _ hv, Instr.storeAt, Instr.sureAddr, storeVar, hs.run, Value.cells, hr]

theorem DoS.storeAll {b : Nat} {cs us : List Value} {n : Nat} (hp : look e x = some (.pointer (some ⟨b, 0, none⟩))) (hv : look e y = some (.agg us.toArray)) (hs : sizeIs P T n) (hn : us.length = n) (hu : us.all (·.oneCell') = true) (hb : Blk w b E cs) (hi : us.length = cs.length) :
    DoS P e (.store T x y) w (fun w2 => Put w w2 b E us) := by
  have h := DoS.storeA (T := T) hp hv hs hn hu hb (by omega)
  have : cs.take 0 ++ us ++ cs.drop (0 + us.length) = us := by
    rw [List.drop_of_length_le (by omega)]
    simp
  rwa [this] at h
theorem look_pairs {e : Env} {ρ : Operand → Value} (hρ : ∀ x u, look e x = some u → ρ x = u) : ∀ (ps : List (Nat × Operand)) (vs : List (Nat × Value)), ps.mapM (fun p => (look e p.2).map (fun v => (p.1, v))) = some vs → ps.map (fun p => (p.1, ρ p.2)) = vs
  | [], vs, h => by simpa using h
  | p :: ps, vs, h => by
    simp only [List.mapM_cons, Option.pure_def, Option.bind_eq_bind] at h
    cases hx : look e p.2 with
    | none => simp [hx] at h
    | some u =>
      cases hr : ps.mapM (fun p => (look e p.2).map (fun v => (p.1, v))) with
      | none => simp [hx, hr] at h
      | some us =>
        simp [hx, hr] at h
        subst h
        simp [hρ p.2 u hx, look_pairs hρ ps us hr]
theorem Ev.build {ps : List (Nat × Operand)} {vs : List (Nat × Value)} {cs : List Value} (hp : ps.mapM (fun p => (look e p.2).map (fun v => (p.1, v))) = some vs) (hb : ∀ w, (Instr.build T vs.toArray).run P w = .ok (.agg cs.toArray) w) :
    Ev P e (.build T ps.toArray) w (.agg cs.toArray) :=
  fun w' hw ρ hρ o ho => by
    have := look_pairs hρ ps vs hp
    simp only [execOp, ho, Sem.run_bind, List.map_toArray, this, hb, Result.andThen_ok]
    rfl

/-! texts and bytes -/
theorem Ev.bytesStr {Q : Nat → Prop} {l : Bs} (hx : look e x = some v) (hr : tBytes.rep Q w v l) (hT : P.underlying T = some (.slice E)) (hE : P.underlying E = some (.int .u8)) (hT' : P.underlying T' = some .string) : Ev P e (.convert T T' x) w (str l) := by
  intro w' hw ρ hρ o ho
  obtain ⟨hl, a, cap, rfl, hc, h⟩ := Sl.bytes hr
  rcases h with ⟨rfl, rfl⟩ | ⟨b, off, rfl, hb, hlt, hcs⟩
  · cases a with
    | none =>
      simp only [execOp, ho, hρ _ _ hx, Sem.run_bind, run_convert_bytes_nil (P := P) w' T E hT hE _ _ T' hT', Result.andThen_ok]
      rfl
    | some a =>
      have h2 := run_bytesToString (P := P) w' a 0 0 [] rfl
      simp only [execOp, ho, hρ _ _ hx, Sem.run_bind, List.length_nil, run_convert_bytes_string (P := P) w' T T' E _ _ _ hT hE hT', h2, Result.andThen_ok]
      rfl
  · have hl : (loadCells ⟨b, off, none⟩ l.length).run P w' = .ok ((l.map fun c => (c.toNat : Int)).map (Value.int .u8)).toArray w' := by
      have := hcs.load P hw
      rw [List.length_map] at this
      rw [this, List.map_map]
      rfl
    have h2 := run_bytesToString (P := P) w' ⟨b, off, none⟩ l.length cap (l.map fun c => (c.toNat : Int)) hl
    simp only [execOp, ho, hρ _ _ hx, Sem.run_bind, run_convert_bytes_string (P := P) w' T T' E _ _ _ hT hE hT', h2, Result.andThen_ok]
    have h3 : (l.map fun c => (c.toNat : Int)).foldl (fun r n => r.push (UInt8.ofNat n.toNat)) ByteArray.empty = bs l := by
      rw [foldl_push_bytes]
      apply ByteArray.ext
      apply Array.ext'
      show ([] : List UInt8).toArray.toList ++ _ = l
      rw [List.map_map]
      have : (fun n : Int => UInt8.ofNat n.toNat) ∘ (fun c : UInt8 => (c.toNat : Int)) = id := by funext c; simp
      rw [this]
      simp
    rw [h3]
    rfl
theorem DoV.strBytes {l : Bs} (hx : look e x = some (str l)) (hT : P.underlying T = some .string) (hT' : P.underlying T' = some (.slice E)) (hE : P.underlying E = some (.int .u8)) :
    DoV P e (.convert T T' x) w (fun v w2 => ∃ cap cs, v = .slice (some ⟨w.heap.size, 0, none⟩) l.length cap ∧ l.length ≤ cap ∧ cs.length = cap ∧ cs.take l.length = l.map u8 ∧ New w w2 E cs) := by
  intro w' hw ρ hρ o ho
  have hcap : ∀ t : Nat, l.length ≤ l.length + t % (2 ^ 63 - l.length) := fun t => by omega
  generalize hc : l.length + w'.tape w'.drawn (.appendCap l.length 0 E) % (2 ^ 63 - l.length) = cap
  have hge : l.length ≤ cap := by omega
  let cs := l.map u8 ++ List.replicate (cap - l.length) (Value.int .u8 0)
  have hlen : cs.length = cap := by simp [cs]; omega
  have hsh : (({ w' with drawn := w'.drawn + 1 } : World).alloc (.cells cs.toArray E)).shape? w.heap.size = some (E, cap) := by
    rw [← hw.heap]
    simp [World.shape?, World.alloc, hlen]
  let w3 : World := (({ w' with drawn := w'.drawn + 1 } : World).alloc (.cells cs.toArray E)).freeze ⟨w.heap.size, cap, none⟩ 1
  let w2 : World := (w.alloc (.cells cs.toArray E)).freeze ⟨w.heap.size, cap, none⟩ 1
  have hfz : ∀ u : World, u.heap.size = w.heap.size → (u.alloc (.cells cs.toArray E)).freeze ⟨w.heap.size, cap, none⟩ 1 = { u with heap := u.heap.push (.cells cs.toArray E (cap, cap + 1)) } := fun u hu => by
    simp only [World.freeze, World.alloc]
    simp only [Nat.one_ne_zero, if_false]
    congr 1
    apply Array.ext_getElem?
    intro i
    simp only [Array.getElem?_modify, Array.getElem?_push, hu]
    by_cases hi : w.heap.size = i
    · simp [hi]
    · rw [if_neg hi, if_neg (fun h => hi h.symm), if_neg (fun h => hi h.symm)]
  refine ⟨.slice (some ⟨w.heap.size, 0, none⟩) l.length cap, w2, w3, ?_, ?_, cap, cs, rfl, hge, hlen, by simp [cs], ?_⟩
  · have hels : (bs l).data.map (fun b : UInt8 => Value.int .u8 (b.toNat : Int)) = (l.map u8).toArray := by simp [bs]
    have hcs : (l.map u8).toArray ++ Array.replicate (cap - l.length) (Value.int .u8 0) = cs.toArray := by
      apply Array.ext'; simp [cs]
    simp only [execOp, ho, hρ _ _ hx, Sem.run_bind, convert, run_underlying hT, run_underlying hT', run_underlying hE, Result.andThen_ok, Conv.stringToBytes, bs_size, run_choose, Question.forced, Bool.false_eq_true, if_false, Question.cut, hc, hels, hcs, newRow, run_newObj, markStringish, Sem.run_pure]
    have h5 : ({ w' with drawn := w'.drawn + 1 } : World).heap.size = w.heap.size := by rw [← hw.heap]
    have h6 : ({ w' with heap := w'.heap.push (Obj.cells cs.toArray E), drawn := w'.drawn + 1 } : World).shape? w.heap.size = some (E, cap) := hsh
    simp only [hw.heap] at h6 ⊢
    simp [h6, w3, World.alloc, hw.heap]
  · refine ⟨?_, hw.os, hw.tape, hw.output⟩
    show w3.heap = w2.heap
    simp only [w3, w2, hfz w rfl, hfz _ (show ({ w' with drawn := w'.drawn + 1 } : World).heap.size = w.heap.size by rw [← hw.heap]), hw.heap]
  · refine ⟨⟨(cap, cap + 1), .inl ⟨?_, by omega⟩⟩, ?_, ?_⟩
    · simp only [w2, hfz w rfl]
      simp
    · simp only [w2, hfz w rfl]
      exact ⟨rfl, rfl, rfl, by simp, fun k hk _ => by rw [Array.getElem?_push, if_neg (by omega)]⟩
    · simp only [w2, hfz w rfl]
      simp
end
theorem strBytes_rep {w w2 : World} {E : TypeId} {l : Bs} {cap : Nat} {cs : List Value} (hl : l.length < Lim) (h1 : l.length ≤ cap) (h3 : cs.take l.length = l.map u8) (N : New w w2 E cs) :
    tBytes.rep (fun k => w.heap.size ≤ k) w2 (.slice (some ⟨w.heap.size, 0, none⟩) l.length cap) l :=
  Sl.mkBytes (by rw [← h3]; exact N.blk.cells.take _) (Nat.le_refl _) N.blk.lt h1 hl rfl
end Go.Proofs.Ythkgadhamecnlaa
