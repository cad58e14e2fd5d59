import Derived.Test.YtpfehnopghffjaaGreatDoorQ03
import Derived.Deep.AppendSrc
import Derived.Deep.Upon
import Derived.Laws.AppendOwn
import Derived.Laws.IdiomCopy
import Derived.ProofKit
import Derived.OpenShut
import Derived.SizedLaws
import Derived.Deep.CondSized
set_option linter.unusedVariables false
set_option linter.unusedSimpArgs false
/-
  What makes and writes memory: make, variables, literals, append, copy, conversions of texts. No program in sight.
-/
namespace Go.Proofs.YtpfehnopghffjaaGreatDoor
open Go

/-- one new block, all else as it was -/
structure New (w w2 : World) (E : TypeId) (cs : List Value) : Prop where
  blk : Blk w2 w.heap.size E cs
  ext : Ext (fun _ => False) w w2
  size : w2.heap.size = w.heap.size + 1
theorem New.alloc (w : World) (E : TypeId) (cs : List Value) : New w (w.alloc (.cells cs.toArray E)) E cs := ⟨Blk.alloc w cs E, Ext.alloc w _, by simp⟩
theorem New.ext0 {S : Nat → Prop} {w w2 : World} {E : TypeId} {cs : List Value} (N : New w w2 E cs) : Ext S w w2 := N.ext.mono (fun _ _ h => h.elim)
/-- a block written, all else as it was -/
structure Put (w w2 : World) (b : Nat) (E : TypeId) (cs : List Value) : Prop where
  blk : Blk w2 b E cs
  ext : Ext (· = b) w w2
  size : w2.heap.size = w.heap.size

section
variable {P : Program} {e : Env} {w : World} {x y z : Operand} {T T' E : TypeId} {v u : Value}

theorem DoV.make {n : Int} {k k' : IntKind} {ti : TypeInfo} {z0 : Value} {n1 n2 : Operand} (h1 : look e n1 = some (.int k n)) (h2 : look e n2 = some (.int k' n)) (hT : P.underlying T = some (.slice E)) (hE : P.info? E = some ti) (hz : ti.zero = some z0) (hs : ti.size = 1) (hc : z0.cells = #[z0]) {eb : Nat} (hby : ti.bytes = eb)
    (hn : 0 ≤ n ∧ (eb : Int) * n ≤ 281474976710656 ∧ n ≤ 9223372036854775807) :
    DoV P e (.makeSlice T n1 n2) w (fun v w2 => v = .slice (some ⟨w.heap.size, 0, none⟩) n.toNat n.toNat ∧ New w w2 E (List.replicate n.toNat z0)) := by
  intro w' hw ρ hρ o ho
  subst hby
  have hr := run_make (P := P) w' T E ti z0 hT hE hz k k' n n hn.1 (Int.le_refl _) hn.2.1 hn.2.2
  refine ⟨.slice (some ⟨w.heap.size, 0, none⟩) n.toNat n.toNat, w.alloc (.cells (List.replicate n.toNat z0).toArray E), w'.alloc (.cells (List.replicate n.toNat z0).toArray E), ?_, hw.alloc _, rfl, New.alloc _ _ _⟩
  have h3 : madeCells z0.cells (n.toNat * ti.size) = (List.replicate n.toNat z0).toArray := by
    apply Array.ext'
    rw [hc, hs, Nat.mul_one, toList_madeCells_one]
  rw [h3] at hr
  simp only [execOp, ho, hρ _ _ h1, hρ _ _ h2, Sem.run_bind, hr, Result.andThen_ok, hw.heap]
  rfl
theorem DoV.alloc {ti : TypeInfo} {z0 : Value} (hE : P.info? T = some ti) (hz : ti.zero = some z0) :
    DoV P e (.alloc T) w (fun v w2 => v = .pointer (some ⟨w.heap.size, 0, none⟩) ∧ New w w2 T z0.cells.toList) := by
  intro w' hw ρ hρ o ho
  refine ⟨_, w.alloc (.cells z0.cells.toList.toArray T), w'.alloc (.cells z0.cells.toList.toArray T), ?_, hw.alloc _, rfl, New.alloc _ _ _⟩
  simp [execOp, ho, Instr.alloc, zeroValue, typeInfo, hE, hz, newVar, newRow, hw.heap]
theorem DoV.box (hx : look e x = some v) :
    DoV P e (.box T x) w (fun p w2 => p = .pointer (some ⟨w.heap.size, 0, none⟩) ∧ New w w2 T v.cells.toList) := by
  intro w' hw ρ hρ o ho
  refine ⟨_, w.alloc (.cells v.cells.toList.toArray T), w'.alloc (.cells v.cells.toList.toArray T), ?_, hw.alloc _, rfl, New.alloc _ _ _⟩
  simp [execOp, ho, hρ _ _ hx, Instr.box, newVar, newRow, hw.heap]
theorem DoS.store {b i : Nat} {cs : List Value} {ti : TypeInfo} (hp : look e x = some (.pointer (some ⟨b, i, none⟩))) (hv : look e y = some u) (hT : P.info? T = some ti) (hs : ti.size = 1) (hu : u.oneCell' = true) (hb : Blk w b E cs) (hi : i < cs.length) :
    DoS P e (.store T x y) w (fun w2 => Put w w2 b E (cs.set i u)) := by
  intro w' hw ρ hρ o ho
  have hb' : Blk w' b E cs := hb.keep (by rw [hw.heap])
  have hr := storeVar_one (P := P) hb' hi hu hT hs
  refine ⟨w.setCell ⟨b, i, none⟩ u, w'.setCell ⟨b, i, none⟩ u, ?_, hw.setCell _ _, hb.set i u, Ext.setCell (S := (· = b)) w (p := ⟨b, i, none⟩) rfl u, by simp⟩
  simp [execOp, ho, hρ _ _ hp, hρ _ _ hv, Instr.storeAt, Instr.sureAddr, hr]
theorem Same.putCells {w w' : World} (h : Same w w') (b : Nat) : ∀ (vs : List Value) (o : Nat), Same (putCells w b o vs) (putCells w' b o vs) := by
  intro vs
  induction vs generalizing w w' with
  | nil => intro o; exact h
  | cons v r ih => intro o; exact ih (h.setCell _ _) (o + 1)
theorem DoS.storeA {b i : Nat} {cs us : List Value} {n : Nat} (hp : look e x = some (.pointer (some ⟨b, i, none⟩))) (hv : look e y = some (.agg us.toArray)) (hs : sizeIs P T n) (hn : us.length = n) (hu : us.all (·.oneCell') = true) (hb : Blk w b E cs) (hi : i + us.length ≤ cs.length) :
    DoS P e (.store T x y) w (fun w2 => Put w w2 b E (cs.take i ++ us ++ cs.drop (i + us.length))) := by
  intro w' hw ρ hρ o ho
  subst hn
  have hb' : Blk w' b E cs := hb.keep (by rw [hw.heap])
  have hr := run_putCells (P := P) us i 0 hb' (by omega) (fun v hv => by simpa using List.all_eq_true.1 hu v hv)
  rw [← splice_eq us cs i hi]
  refine ⟨putCells w b i us, putCells w' b i us, ?_, hw.putCells b us i, hb.put us i, putCells_ext us w b i, putCells_size us w b i⟩
  simp [execOp, ho, hρ _ _ hp, hρ _ _ hv, Instr.storeAt, Instr.sureAddr, storeVar, hs.run, Value.cells, hr]

theorem DoS.storeAll {b : Nat} {cs us : List Value} {n : Nat} (hp : look e x = some (.pointer (some ⟨b, 0, none⟩))) (hv : look e y = some (.agg us.toArray)) (hs : sizeIs P T n) (hn : us.length = n) (hu : us.all (·.oneCell') = true) (hb : Blk w b E cs) (hi : us.length = cs.length) :
    DoS P e (.store T x y) w (fun w2 => Put w w2 b E us) := by
  have h := DoS.storeA (T := T) hp hv hs hn hu hb (by omega)
  have : cs.take 0 ++ us ++ cs.drop (0 + us.length) = us := by
    rw [List.drop_of_length_le (by omega)]
    simp
  rwa [this] at h
theorem look_pairs {e : Env} {ρ : Operand → Value} (hρ : ∀ x u, look e x = some u → ρ x = u) : ∀ (ps : List (Nat × Operand)) (vs : List (Nat × Value)), ps.mapM (fun p => (look e p.2).map (fun v => (p.1, v))) = some vs → ps.map (fun p => (p.1, ρ p.2)) = vs
  | [], vs, h => by simpa using h
  | p :: ps, vs, h => by
    simp only [List.mapM_cons, Option.pure_def, Option.bind_eq_bind] at h
    cases hx : look e p.2 with
    | none => simp [hx] at h
    | some u =>
      cases hr : ps.mapM (fun p => (look e p.2).map (fun v => (p.1, v))) with
      | none => simp [hx, hr] at h
      | some us =>
        simp [hx, hr] at h
        subst h
        simp [hρ p.2 u hx, look_pairs hρ ps us hr]
theorem Ev.build {ps : List (Nat × Operand)} {vs : List (Nat × Value)} {cs : List Value} (hp : ps.mapM (fun p => (look e p.2).map (fun v => (p.1, v))) = some vs) (hb : ∀ w, (Instr.build T vs.toArray).run P w = .ok (.agg cs.toArray) w) :
    Ev P e (.build T ps.toArray) w (.agg cs.toArray) :=
  fun w' hw ρ hρ o ho => by
    have := look_pairs hρ ps vs hp
    simp only [execOp, ho, Sem.run_bind, List.map_toArray, this, hb, Result.andThen_ok]
    rfl

/-! texts and bytes -/
theorem Ev.bytesStr {Q : Nat → Prop} {l : Bs} (hx : look e x = some v) (hr : tBytes.rep Q w v l) (hT : P.underlying T = some (.slice E)) (hE : P.underlying E = some (.int .u8)) (hT' : P.underlying T' = some .string) : Ev P e (.convert T T' x) w (str l) := by
  intro w' hw ρ hρ o ho
  obtain ⟨hl, a, cap, rfl, hc, h⟩ := Sl.bytes hr
  rcases h with ⟨rfl, rfl⟩ | ⟨b, off, rfl, hb, hlt, hcs⟩
  · cases a with
    | none =>
      simp only [execOp, ho, hρ _ _ hx, Sem.run_bind, run_convert_bytes_nil (P := P) w' T E hT hE _ _ T' hT', Result.andThen_ok]
      rfl
    | some a =>
      have h2 := run_bytesToString (P := P) w' a 0 0 [] rfl
      simp only [execOp, ho, hρ _ _ hx, Sem.run_bind, List.length_nil, run_convert_bytes_string (P := P) w' T T' E _ _ _ hT hE hT', h2, Result.andThen_ok]
      rfl
  · have hl : (loadCells ⟨b, off, none⟩ l.length).run P w' = .ok ((l.map fun c => (c.toNat : Int)).map (Value.int .u8)).toArray w' := by
      have := hcs.load P hw
      rw [List.length_map] at this
      rw [this, List.map_map]
      rfl
    have h2 := run_bytesToString (P := P) w' ⟨b, off, none⟩ l.length cap (l.map fun c => (c.toNat : Int)) hl
    simp only [execOp, ho, hρ _ _ hx, Sem.run_bind, run_convert_bytes_string (P := P) w' T T' E _ _ _ hT hE hT', h2, Result.andThen_ok]
    have h3 : (l.map fun c => (c.toNat : Int)).foldl (fun r n => r.push (UInt8.ofNat n.toNat)) ByteArray.empty = bs l := by
      rw [foldl_push_bytes]
      apply ByteArray.ext
      apply Array.ext'
      show ([] : List UInt8).toArray.toList ++ _ = l
      rw [List.map_map]
      have : (fun n : Int => UInt8.ofNat n.toNat) ∘ (fun c : UInt8 => (c.toNat : Int)) = id := by funext c; simp
      rw [this]
      simp
    rw [h3]
    rfl
theorem DoV.strBytes {l : Bs} (hx : look e x = some (str l)) (hT : P.underlying T = some .string) (hT' : P.underlying T' = some (.slice E)) (hE : P.underlying E = some (.int .u8)) :
    DoV P e (.convert T T' x) w (fun v w2 => ∃ cap cs, v = .slice (some ⟨w.heap.size, 0, none⟩) l.length cap ∧ l.length ≤ cap ∧ cs.length = cap ∧ cs.take l.length = l.map u8 ∧ New w w2 E cs) := by
  intro w' hw ρ hρ o ho
  have hcap : ∀ t : Nat, l.length ≤ l.length + t % (2 ^ 63 - l.length) := fun t => by omega
  generalize hc : l.length + w'.tape w'.drawn (.appendCap l.length 0 E) % (2 ^ 63 - l.length) = cap
  have hge : l.length ≤ cap := by omega
  let cs := l.map u8 ++ List.replicate (cap - l.length) (Value.int .u8 0)
  have hlen : cs.length = cap := by simp [cs]; omega
  have hsh : (({ w' with drawn := w'.drawn + 1 } : World).alloc (.cells cs.toArray E)).shape? w.heap.size = some (E, cap) := by
    rw [← hw.heap]
    simp [World.shape?, World.alloc, hlen]
  let w3 : World := (({ w' with drawn := w'.drawn + 1 } : World).alloc (.cells cs.toArray E)).freeze ⟨w.heap.size, cap, none⟩ 1
  let w2 : World := (w.alloc (.cells cs.toArray E)).freeze ⟨w.heap.size, cap, none⟩ 1
  have hfz : ∀ u : World, u.heap.size = w.heap.size → (u.alloc (.cells cs.toArray E)).freeze ⟨w.heap.size, cap, none⟩ 1 = { u with heap := u.heap.push (.cells cs.toArray E (cap, cap + 1)) } := fun u hu => by
    simp only [World.freeze, World.alloc]
    simp only [Nat.one_ne_zero, if_false]
    congr 1
    apply Array.ext_getElem?
    intro i
    simp only [Array.getElem?_modify, Array.getElem?_push, hu]
    by_cases hi : w.heap.size = i
    · simp [hi]
    · rw [if_neg hi, if_neg (fun h => hi h.symm), if_neg (fun h => hi h.symm)]
  refine ⟨.slice (some ⟨w.heap.size, 0, none⟩) l.length cap, w2, w3, ?_, ?_, cap, cs, rfl, hge, hlen, by simp [cs], ?_⟩
  · have hels : (bs l).data.map (fun b : UInt8 => Value.int .u8 (b.toNat : Int)) = (l.map u8).toArray := by simp [bs]
    have hcs : (l.map u8).toArray ++ Array.replicate (cap - l.length) (Value.int .u8 0) = cs.toArray := by
      apply Array.ext'; simp [cs]
    simp only [execOp, ho, hρ _ _ hx, Sem.run_bind, convert, run_underlying hT, run_underlying hT', run_underlying hE, Result.andThen_ok, Conv.stringToBytes, bs_size, run_choose, Question.forced, Bool.false_eq_true, if_false, Question.cut, hc, hels, hcs, newRow, run_newObj, markStringish, Sem.run_pure]
    have h5 : ({ w' with drawn := w'.drawn + 1 } : World).heap.size = w.heap.size := by rw [← hw.heap]
    have h6 : ({ w' with heap := w'.heap.push (Obj.cells cs.toArray E), drawn := w'.drawn + 1 } : World).shape? w.heap.size = some (E, cap) := hsh
    simp only [hw.heap] at h6 ⊢
    simp [h6, w3, World.alloc, hw.heap]
  · refine ⟨?_, hw.os, hw.tape, hw.output⟩
    show w3.heap = w2.heap
    simp only [w3, w2, hfz w rfl, hfz _ (show ({ w' with drawn := w'.drawn + 1 } : World).heap.size = w.heap.size by rw [← hw.heap]), hw.heap]
  · refine ⟨⟨(cap, cap + 1), .inl ⟨?_, by omega⟩⟩, ?_, ?_⟩
    · simp only [w2, hfz w rfl]
      simp
    · simp only [w2, hfz w rfl]
      exact ⟨rfl, rfl, rfl, by simp, fun k hk _ => by rw [Array.getElem?_push, if_neg (by omega)]⟩
    · simp only [w2, hfz w rfl]
      simp
end
theorem strBytes_rep {w w2 : World} {E : TypeId} {l : Bs} {cap : Nat} {cs : List Value} (hl : l.length < Lim) (h1 : l.length ≤ cap) (h3 : cs.take l.length = l.map u8) (N : New w w2 E cs) :
    tBytes.rep (fun k => w.heap.size ≤ k) w2 (.slice (some ⟨w.heap.size, 0, none⟩) l.length cap) l :=
  Sl.mkBytes (by rw [← h3]; exact N.blk.cells.take _) (Nat.le_refl _) N.blk.lt h1 hl rfl
end Go.Proofs.YtpfehnopghffjaaGreatDoor
/-
  Slices of a call's own, that grow: append; literals of slices; copy. No program in sight.
-/
namespace Go.Proofs.YtpfehnopghffjaaGreatDoor
open Go

/-- a slice of the call's own, in block b, with its spare room; what its elements lead to lies in Q -/
def Own {α : Type} (t : Ty α) (Q : Nat → Prop) (E : TypeId) (w : World) (v : Value) (xs : List α) (b : Nat) : Prop :=
  xs.length < Lim ∧ ((xs = [] ∧ v = .slice none 0 0) ∨
    ∃ cap us sp, v = .slice (some ⟨b, 0, none⟩) xs.length cap ∧ xs.length ≤ cap ∧ Each (t.rep Q w) us xs ∧ Blk w b E (flat us ++ sp) ∧ (flat us ++ sp).length = cap * t.size)
section
variable {α : Type} {t : Ty α} {Q : Nat → Prop} {E : TypeId} {w w' : World} {v : Value} {xs ys : List α} {b : Nat}
theorem Own.nil : Own t Q E w (.slice none 0 0) [] b := ⟨by show 0 < Lim; decide, .inl ⟨rfl, rfl⟩⟩
theorem Own.ext {S : Nat → Prop} (h : Own t Q E w v xs b) (hx : Ext S w w') (hs : ¬ S b) (hq : ∀ k, Q k → k < w.heap.size → ¬ S k) : Own t Q E w' v xs b := by
  obtain ⟨hl, h | ⟨cap, us, sp, hv, hc, he, hb, hn⟩⟩ := h
  · exact ⟨hl, .inl h⟩
  · exact ⟨hl, .inr ⟨cap, us, sp, hv, hc, he.imp (fun u x hu => t.ext hu hx hq), hb.ext hx hs, hn⟩⟩
theorem Own.ext0 (h : Own t Q E w v xs b) (hx : Ext (fun _ => False) w w') : Own t Q E w' v xs b := h.ext hx (fun x => x) (fun _ _ _ x => x)
theorem Own.mono {Q' : Nat → Prop} (h : Own t Q E w v xs b) (hq : ∀ k, Q k → k < w.heap.size → Q' k) : Own t Q' E w v xs b := by
  obtain ⟨hl, h | ⟨cap, us, sp, hv, hc, he, hb, hn⟩⟩ := h
  · exact ⟨hl, .inl h⟩
  · exact ⟨hl, .inr ⟨cap, us, sp, hv, hc, he.imp (fun u x hu => t.mono hu hq), hb, hn⟩⟩
theorem Own.rep {Q' : Nat → Prop} (h : Own t Q E w v xs b) (hb : Q' b) (hq : ∀ k, Q k → k < w.heap.size → Q' k) : (Sl t).rep Q' w v xs := by
  obtain ⟨hl, ⟨rfl, rfl⟩ | ⟨cap, us, sp, rfl, hc, he, hB, hn⟩⟩ := h
  · exact Sl.nil
  · exact Sl.mk (he.imp (fun u x hu => t.mono hu hq)) hB.cells.left hb hB.lt hc hl rfl
theorem Own.lt (h : Own t Q E w v xs b) (hne : xs ≠ []) : b < w.heap.size := by
  obtain ⟨hl, ⟨rfl, rfl⟩ | ⟨cap, us, sp, rfl, hc, he, hB, hn⟩⟩ := h
  · exact absurd rfl hne
  · exact hB.lt
theorem Own.lim (h : Own t Q E w v xs b) : xs.length < Lim := h.1
theorem Own.val (h : Own t Q E w v xs b) : ∃ a cap, v = .slice a xs.length cap ∧ xs.length ≤ cap := by
  obtain ⟨hl, ⟨rfl, rfl⟩ | ⟨cap, us, sp, rfl, hc, _⟩⟩ := h
  · exact ⟨none, 0, rfl, Nat.le_refl _⟩
  · exact ⟨_, cap, rfl, hc⟩
theorem Own.ofText {l : Bs} {cap : Nat} {cs : List Value} (N : New w w' E cs) (hl : l.length < Lim) (hc : l.length ≤ cap) (hn : cs.length = cap) (hs : cs.take l.length = l.map u8) : Own tByte Q E w' (.slice (some ⟨w.heap.size, 0, none⟩) l.length cap) l w.heap.size := by
  have e : flat (l.map u8) ++ cs.drop l.length = cs := by rw [flat_u8, ← hs, List.take_append_drop]
  exact ⟨hl, .inr ⟨cap, l.map u8, cs.drop l.length, rfl, hc, each_u8 l, by rw [e]; exact N.blk, by rw [e, hn]; exact (Nat.mul_one _).symm⟩⟩
/-- what a slice holds, whoever's it is -/
def Holds {α : Type} (t : Ty α) (Q : Nat → Prop) (w : World) (v : Value) (xs : List α) : Prop :=
  (xs = [] ∧ ∃ cap, v = .slice none 0 cap) ∨ ∃ b o cap us, v = .slice (some ⟨b, o, none⟩) xs.length cap ∧ Each (t.rep Q w) us xs ∧ Cells w b o (flat us)
theorem Sl.holds {Q' : Nat → Prop} (h : (Sl t).rep Q' w v xs) (hq : ∀ u x, t.rep Q' w u x → t.rep Q w u x) : (∃ a cap, v = .slice a 0 cap ∧ xs = []) ∨ Holds t Q w v xs := by
  obtain ⟨_, a, cap, rfl, hc, ⟨rfl, rfl⟩ | ⟨b, o, us, rfl, hb, hlt, he, hcs⟩⟩ := h
  · exact .inl ⟨a, 0, rfl, rfl⟩
  · exact .inr (.inr ⟨b, o, cap, us, rfl, he.imp hq, hcs⟩)
theorem New.holds {us : List Value} (N : New w w' E (flat us)) (he : Each (t.rep Q w) us xs) {n cap : Nat} (hn : n = xs.length) : Holds t Q w' (.slice (some ⟨w.heap.size, 0, none⟩) n cap) xs :=
  .inr ⟨w.heap.size, 0, cap, us, by rw [hn], he.imp (fun u x h => t.ext0 h N.ext), N.blk.cells⟩
theorem Own.ofNew {us : List Value} (N : New w w' E (flat us)) (he : Each (t.rep Q w) us xs) (hl : xs.length < Lim) {n cap : Nat} (hn : n = xs.length) (hc : cap = xs.length) : Own t Q E w' (.slice (some ⟨w.heap.size, 0, none⟩) n cap) xs w.heap.size := by
  subst hn; subst hc
  refine ⟨hl, .inr ⟨xs.length, us, [], rfl, Nat.le_refl _, he.imp (fun u x h => t.ext0 h N.ext), by rw [List.append_nil]; exact N.blk, ?_⟩⟩
  rw [List.append_nil, flat_length (he.mem (n := t.size) (fun u x h => t.sz h)), he.length]
end
theorem each_int {P : Nat → Prop} {w : World} {l : List Int} (h : ∀ x ∈ l, -9223372036854775808 ≤ x ∧ x ≤ 9223372036854775807) : Each (tInt.rep P w) (l.map i64) l := Each.mapMem i64 (fun x hx => ⟨rfl, h x hx⟩)
theorem each_str {P : Nat → Prop} {w : World} {l : List Bs} (h : ∀ x ∈ l, x.length < Lim) : Each (tStr.rep P w) (l.map str) l := Each.mapMem str (fun x hx => ⟨rfl, h x hx⟩)
theorem putCells_setCells (b : Nat) : ∀ (vs : List Value) (o : Nat) (w : World), putCells w b o vs = w.setCells b o vs
  | [], _, _ => rfl
  | v :: r, o, w => by rw [putCells, World.setCells, putCells_setCells b r]

section
variable {P : Program} {e : Env} {w : World} {x y : Operand} {T Tr E : TypeId} {v u : Value} {α : Type} {t : Ty α} {Q : Nat → Prop} {xs ys : List α} {b : Nat}
theorem each_one {us : List Value} {R : Value → α → Prop} (h : Each R us xs) (hr : ∀ u x, R u x → ∀ c ∈ u.cells.toList, c.oneCell' = true) : ∀ c ∈ flat us, c.oneCell' = true := by
  induction h with
  | nil => intro c hc; cases hc
  | cons h1 _ ih =>
    intro c hc
    rw [flat_cons, List.mem_append] at hc
    rcases hc with hc | hc
    · exact hr _ _ h1 c hc
    · exact ih c hc
theorem run_append_call {ρ : Operand → Value} {ats : Array TypeId} {w w' : World} {o : Oper} (ho : o.op = .call { callee := .builtin .append, args := #[x, y], argTypes := ats }) {r : Value} (h : (Builtin.append_ ats o.type #[ρ x, ρ y]).run P w = .ok r w') :
    (execOp ρ o).run P w = .ok (.value r) w' := by
  simp [execOp, ho, resolve, invoke, builtin, h]
/-- what is appended: what an operand yields; nothing from the block that is written, but what is copied -/
theorem DoV.appendOf {i : TypeInfo} {z : Value} {eb : Nat} {T' : TypeId} (hx : look e x = some v) (hv : Own t Q E w v xs b) (hy : look e y = some u) (hsrc0 : ∀ w', Same w w' → ∃ us, Each (t.rep Q w) us ys ∧ Src P t.size T' u ys.length (flat us) w')
    (hT : P.underlying T = some (.slice E)) (hi : P.info? E = some i) (hz : i.zero = some z) (hs : i.size = t.size) (hzs : z.cells.size = t.size) (hby : i.bytes = eb) (hlim : (xs.length + ys.length) * eb ≤ 140737488355328) (hlen : xs.length + ys.length < Lim) (hq : ∀ k, Q k → k < w.heap.size → k ≠ b) :
    DoV P e (.call { callee := .builtin .append, args := #[x, y], argTypes := #[T, T'] }) w (fun r w2 => ∃ b', Own t (fun k => Q k ∧ k ≠ b') E w2 r (xs ++ ys) b' ∧ Ext (· = b) w w2 ∧ (b' = b ∨ b' = w.heap.size)) := by
  intro w' hw ρ hρ o ho
  subst hby
  have hsrc := hsrc0 w' hw
  rw [← hs] at hsrc
  obtain ⟨us, hes, hsrc⟩ := hsrc
  have husl : (flat us).length = ys.length * t.size := by rw [flat_length (hes.mem (n := t.size) (fun u x h => t.sz h)), hes.length]
  obtain ⟨hl, hown⟩ := hv
  have hgrow : ∀ (base : Option Addr) (sCap : Nat) (vs : List Value), v = .slice base xs.length sCap → (Builtin.firstCells i.size xs.length (.slice base xs.length sCap)).run P w'.drew = .ok (flat vs).toArray w'.drew → Each (t.rep Q w) vs xs → sCap < xs.length + ys.length →
      ∃ r w2 w3, (execOp ρ o).run P w' = .ok (.value r) w3 ∧ Same w2 w3 ∧ ∃ b', Own t (fun k => Q k ∧ k ≠ b') E w2 r (xs ++ ys) b' ∧ Ext (· = b) w w2 ∧ (b' = b ∨ b' = w.heap.size) := by
    intro base sCap vs hvv hfc hev hg
    have hge := grownCap_ge w' (xs.length + ys.length) sCap E
    generalize hcap : grownCap w' (xs.length + ys.length) sCap E = cap at hge
    have hr := run_append_grow_src (P := P) w' T T' o.type E i z hT hi hz base xs.length sCap (flat vs) hfc u ys.length (flat us) hsrc hg (by simp only [Lim] at hlen; omega) (growslice_fits hg hlim)
    rw [hcap] at hr
    have hcs : (flat vs ++ flat us).toArray ++ Builtin.zeroCells z.cells (cap - (xs.length + ys.length)) = (flat (vs ++ us) ++ (Builtin.zeroCells z.cells (cap - (xs.length + ys.length))).toList).toArray := by
      apply Array.ext'; simp [flat_append]
    rw [hcs] at hr
    let cs := flat (vs ++ us) ++ (Builtin.zeroCells z.cells (cap - (xs.length + ys.length))).toList
    have hext : Ext (fun _ => False) w (w.alloc (.cells cs.toArray E)) := Ext.alloc w _
    have hsz : (w.alloc (.cells cs.toArray E)).heap.size = w.heap.size + 1 := by simp
    refine ⟨.slice (some ⟨w.heap.size, 0, none⟩) (xs.length + ys.length) cap, w.alloc (.cells cs.toArray E), w'.drew.alloc (.cells cs.toArray E), ?_, (hw.trans (same_draw w')).alloc _, w.heap.size, ?_, hext.mono (fun _ _ hf => hf.elim), .inr rfl⟩
    · rw [hw.heap] at hr
      refine run_append_call ho ?_
      rw [hρ _ _ hx, hρ _ _ hy, hvv]
      exact hr
    · refine ⟨by rw [List.length_append]; exact hlen, .inr ⟨cap, vs ++ us, (Builtin.zeroCells z.cells (cap - (xs.length + ys.length))).toList, by rw [List.length_append], by rw [List.length_append]; exact hge, ?_, Blk.alloc _ _ _, ?_⟩⟩
      · exact (hev.append hes).imp (fun u x h => t.ext0 (t.mono h (fun k hk hlt => ⟨hk, Nat.ne_of_lt hlt⟩)) hext)
      · have h1 := hev.append hes
        rw [List.length_append, flat_length (h1.mem (n := t.size) (fun u x h => t.sz h)), h1.length, show (Builtin.zeroCells z.cells (cap - (xs.length + ys.length))).toList.length = (cap - (xs.length + ys.length)) * t.size by rw [Array.length_toList, size_zeroCells, hzs], List.length_append, ← Nat.add_mul]
        congr 1
        omega
  rcases hown with ⟨rfl, rfl⟩ | ⟨cap, us0, sp, rfl, hc0, he0, hB, hn0⟩
  · by_cases h0 : ys = []
    · subst h0
      refine ⟨.slice none 0 0, w, w', run_append_call ho ?_, hw, b, Own.nil, .refl w, .inl rfl⟩
      rw [hρ _ _ hx, hρ _ _ hy]
      have hus : us = [] := by cases hes; rfl
      subst hus
      exact run_append_nothing (P := P) w' T T' o.type E i hT hi none 0 0 (Nat.le_refl _) u hsrc
    · exact hgrow none 0 [] rfl (by exact run_firstCells_none w'.drew i.size 0 0 0) .nil (by have := List.length_pos_iff.2 h0; simp; omega)
  · by_cases hroom : xs.length + ys.length ≤ cap
    · have hul : (flat us0).length = xs.length * t.size := by rw [flat_length (he0.mem (n := t.size) (fun u x h => t.sz h)), he0.length]
      have hfit : xs.length * t.size + (flat us).length ≤ (flat us0 ++ sp).length := by
        rw [hn0, husl, ← Nat.add_mul]
        exact Nat.mul_le_mul_right _ hroom
      have hB' : Blk w' b E (flat us0 ++ sp) := hB.keep (by rw [hw.heap])
      have h1 : ∀ u ∈ flat us, u.oneCell' = true := each_one hes (fun u x h => t.one h)
      have hr := run_append_room_src (P := P) w' T T' o.type E i hT hi b 0 xs.length cap u ys.length (flat us) hsrc hroom
        (fun j hj => by rw [hB'.cell, hs, Nat.zero_add]; rw [List.getElem?_eq_getElem (by omega)]; rfl) (fun j hj => hB'.thawed _ (by rw [hs]; omega))
      rw [← putCells_setCells, hs, Nat.zero_add] at hr
      refine ⟨.slice (some ⟨b, 0, none⟩) (xs.length + ys.length) cap, putCells w b (xs.length * t.size) (flat us), putCells w' b (xs.length * t.size) (flat us), run_append_call ho ?_, hw.putCells b _ _, b, ?_, putCells_ext _ _ _ _, .inl rfl⟩
      · rw [hρ _ _ hx, hρ _ _ hy]
        exact hr
      · have hb2 := hB.put (flat us) (xs.length * t.size)
        rw [splice_eq _ _ _ hfit] at hb2
        have e1 : (flat us0 ++ sp).take (xs.length * t.size) ++ flat us ++ (flat us0 ++ sp).drop (xs.length * t.size + (flat us).length) = flat (us0 ++ us) ++ sp.drop (flat us).length := by
          rw [List.take_left' hul, ← List.drop_drop, List.drop_left' hul, flat_append]
        rw [e1] at hb2
        refine ⟨by rw [List.length_append]; exact hlen, .inr ⟨cap, us0 ++ us, sp.drop (flat us).length, by rw [List.length_append], by rw [List.length_append]; exact hroom, ?_, hb2, ?_⟩⟩
        · refine (he0.append hes).imp (fun u x h => ?_)
          have hne := t.mono h (P' := fun k => Q k ∧ k ≠ b) (fun k hk hlt => ⟨hk, hq k hk hlt⟩)
          exact t.ext hne (putCells_ext _ _ _ _) (fun k hk _ => hk.2)
        · have h2 : (flat us0 ++ sp).length = xs.length * t.size + sp.length := by rw [List.length_append, hul]
          rw [List.length_append, List.length_drop, flat_append, List.length_append, hul, ← hn0, h2]
          omega
    · refine hgrow _ cap us0 rfl ?_ he0 (by omega)
      refine run_firstCells_some (P := P) w'.drew i.size xs.length _ _ _ (flat us0) ?_ (fun j u hj => ?_)
      · rw [flat_length (he0.mem (n := t.size) (fun u x h => t.sz h)), he0.length, hs]
      · rw [add_none]
        have hb' : Blk w' b E (flat us0 ++ sp) := hB.keep (by rw [hw.heap])
        have := hb'.cells.left j u hj
        simpa using this
theorem src_holds {T' : TypeId} (hu : (∃ a cap, u = .slice a 0 cap ∧ ys = []) ∨ Holds t Q w u ys) (hT' : P.underlying T' = some (.slice E)) {w' : World} (hw : Same w w') : ∃ us, Each (t.rep Q w) us ys ∧ Src P t.size T' u ys.length (flat us) w' := by
  rcases hu with ⟨a, cap, rfl, rfl⟩ | ⟨rfl, cap, rfl⟩ | ⟨b0, o0, cap, us, rfl, he, hc⟩
  · refine ⟨[], .nil, ?_⟩
    cases a with
    | none => exact Src.ofNil w' hT' cap
    | some a => exact Src.ofSlice w' hT' a 0 cap [] (by simp) (by simp) (by simp)
  · exact ⟨[], .nil, Src.ofNil w' hT' cap⟩
  · refine ⟨us, he, Src.ofSlice w' hT' _ _ _ _ ?_ (fun j u hj => ?_) (each_one he (fun u x h => t.one h))⟩
    · rw [flat_length (he.mem (n := t.size) (fun u x h => t.sz h)), he.length]
    · rw [add_none]
      rw [hw.cell]
      exact hc j u hj
theorem DoV.append {i : TypeInfo} {z : Value} {eb : Nat} {T' : TypeId} (hx : look e x = some v) (hv : Own t Q E w v xs b) (hy : look e y = some u) (hu : (∃ a cap, u = .slice a 0 cap ∧ ys = []) ∨ Holds t Q w u ys)
    (hT : P.underlying T = some (.slice E)) (hT' : P.underlying T' = some (.slice E)) (hi : P.info? E = some i) (hz : i.zero = some z) (hs : i.size = t.size) (hzs : z.cells.size = t.size) (hby : i.bytes = eb) (hlim : (xs.length + ys.length) * eb ≤ 140737488355328) (hlen : xs.length + ys.length < Lim) (hq : ∀ k, Q k → k < w.heap.size → k ≠ b) :
    DoV P e (.call { callee := .builtin .append, args := #[x, y], argTypes := #[T, T'] }) w (fun r w2 => ∃ b', Own t (fun k => Q k ∧ k ≠ b') E w2 r (xs ++ ys) b' ∧ Ext (· = b) w w2 ∧ (b' = b ∨ b' = w.heap.size)) :=
  .appendOf hx hv hy (fun _ hw => src_holds hu hT' hw) hT hi hz hs hzs hby hlim hlen hq
theorem DoV.appendS {i : TypeInfo} {z : Value} {T' : TypeId} {bx l : Bs} (hx : look e x = some v) (hv : Own tByte Q E w v bx b) (hy : look e y = some (str l))
    (hT : P.underlying T = some (.slice E)) (hT' : P.underlying T' = some .string) (hi : P.info? E = some i) (hz : i.zero = some z) (hs : i.size = 1) (hzs : z.cells.size = 1) (hby : i.bytes = 1) (hlen : bx.length + l.length < Lim) (hq : ∀ k, Q k → k < w.heap.size → k ≠ b) :
    DoV P e (.call { callee := .builtin .append, args := #[x, y], argTypes := #[T, T'] }) w (fun r w2 => ∃ b', Own tByte (fun k => Q k ∧ k ≠ b') E w2 r (bx ++ l) b' ∧ Ext (· = b) w w2 ∧ (b' = b ∨ b' = w.heap.size)) :=
  .appendOf (eb := 1) hx hv hy (fun w' hw => ⟨l.map u8, each_u8 l, by
    have h := Src.ofString (P := P) w' hT' (bs l)
    have e1 : byteCells (bs l) = flat (l.map u8) := by rw [flat_u8]; simp [byteCells, bs]
    rw [bs_size, e1] at h
    exact h⟩) hT hi hz hs hzs hby (by simp only [Lim] at hlen; omega) hlen hq
/-- a literal of a slice, its elements in their order -/
theorem DoV.lits {ps : List (Nat × Operand)} {vs : List (Nat × Value)} {n : Nat} (hp : ps.mapM (fun p => (look e p.2).map (fun v => (p.1, v))) = some vs) (hT : P.underlying T = some (.slice E)) (hb : ∀ w, (Instr.buildSlice T n vs.toArray).run P w = .ok (.slice (some ⟨w.heap.size, 0, none⟩) n n) (w.alloc (.cells (flat (vs.map (·.2))).toArray E))) :
    DoV P e (.buildSlice T n ps.toArray) w (fun v w2 => v = .slice (some ⟨w.heap.size, 0, none⟩) n n ∧ New w w2 E (flat (vs.map (·.2)))) := by
  intro w' hw ρ hρ o ho
  have := look_pairs hρ ps vs hp
  refine ⟨_, w.alloc (.cells (flat (vs.map (·.2))).toArray E), w'.alloc (.cells (flat (vs.map (·.2))).toArray E), ?_, hw.alloc _, rfl, New.alloc _ _ _⟩
  simp only [execOp, ho, Sem.run_bind, List.map_toArray, this, hb, Result.andThen_ok, hw.heap]
  rfl
theorem DoV.buildSlice {ps : List (Nat × Operand)} {vs : List (Nat × Value)} {cs : List Value} {n : Nat} (hp : ps.mapM (fun p => (look e p.2).map (fun v => (p.1, v))) = some vs) (hb : ∀ w, (Instr.buildSlice T n vs.toArray).run P w = .ok (.slice (some ⟨w.heap.size, 0, none⟩) n n) (w.alloc (.cells cs.toArray E))) :
    DoV P e (.buildSlice T n ps.toArray) w (fun v w2 => v = .slice (some ⟨w.heap.size, 0, none⟩) n n ∧ New w w2 E cs) := by
  intro w' hw ρ hρ o ho
  have := look_pairs hρ ps vs hp
  refine ⟨_, w.alloc (.cells cs.toArray E), w'.alloc (.cells cs.toArray E), ?_, hw.alloc _, rfl, New.alloc _ _ _⟩
  simp only [execOp, ho, Sem.run_bind, List.map_toArray, this, hb, Result.andThen_ok, hw.heap]
  rfl
end
end Go.Proofs.YtpfehnopghffjaaGreatDoor
/-
  More operations: copy, make with spare room, arrays, shifts, conversions, least and greatest. No program in sight.
-/
namespace Go.Proofs.YtpfehnopghffjaaGreatDoor
open Go

section
variable {P : Program} {e : Env} {w : World} {x y z : Operand} {T T' E : TypeId} {v u : Value} {k : IntKind} {a b : Int}
theorem Ev.min2 {Ts : Array TypeId} (hx : look e x = some (.int k a)) (hy : look e y = some (.int k b)) : Ev P e (.call { callee := .builtin .min, args := #[x, y], argTypes := Ts }) w (.int k (min a b)) :=
  fun w' _ ρ hρ o ho => by
    have h : (if b < a then b else a) = min a b := by split <;> omega
    simp [execOp, ho, resolve, invoke, builtin, hρ _ _ hx, hρ _ _ hy, Builtin.min_, Builtin.min2, h]
theorem Ev.max2 {Ts : Array TypeId} (hx : look e x = some (.int k a)) (hy : look e y = some (.int k b)) : Ev P e (.call { callee := .builtin .max, args := #[x, y], argTypes := Ts }) w (.int k (max a b)) :=
  fun w' _ ρ hρ o ho => by
    have h : (if a < b then b else a) = max a b := by split <;> omega
    simp [execOp, ho, resolve, invoke, builtin, hρ _ _ hx, hρ _ _ hy, Builtin.max_, Builtin.max2, h]
/-- a slice of all of an array, of all of a slice -/
theorem Ev.cutA {c n s : Nat} {o : Nat} (hx : look e x = some (.pointer (some ⟨c, o, none⟩))) (hT : P.underlying T = some (.array n E)) (hs : sizeIs P E s) : Ev P e (.slice T x none none none) w (.slice (some ⟨c, o, none⟩) n n) :=
  fun w' hw ρ hρ op ho => by
    simp [execOp, ho, hρ _ _ hx, Instr.sliceAt, run_underlying hT, Instr.sureAddr, Instr.sliceBounds, hs.run, add_none]
theorem Ev.cutAll {c : Option Addr} {n cap s : Nat} (hx : look e x = some (.slice c n cap)) (hT : P.underlying T = some (.slice E)) (hs : sizeIs P E s) : Ev P e (.slice T x none none none) w (cutV s c cap 0 n) :=
  fun w' hw ρ hρ op ho => by
    simp [execOp, ho, hρ _ _ hx, Instr.sliceAt, Instr.slice, run_underlying hT, Instr.sliceBounds, hs.run, cutV]
theorem Ev.arrPtr {c : Option Addr} {n m cap : Nat} (hx : look e x = some (.slice c n cap)) (hT : P.underlying T = some (.array m E)) (h : m ≤ n) : Ev P e (.sliceToArrayPointer T x) w (.pointer c) :=
  fun w' hw ρ hρ op ho => by
    have h' : ¬ n < m := by omega
    simp [execOp, ho, hρ _ _ hx, Instr.arrayAt, run_underlying hT, h']
theorem Ev.idxA {cs : List Value} {n : Nat} {i : Int} {d : TypeDesc} (hx : look e x = some (.agg cs.toArray)) (hy : look e y = some (.int k i)) (hT : P.underlying T = some (.array n E)) (hE : P.underlying E = some d) (hd : aggD d = false) (hs : sizeIs P E 1) (hi : 0 ≤ i ∧ i < n) (hv : cs[i.toNat]? = some v) : Ev P e (.index T x y) w v :=
  fun w' hw ρ hρ op ho => by
    simp [execOp, ho, hρ _ _ hx, hρ _ _ hy, Instr.index, asIntOf, run_underlying hT, hi.1, hi.2, hs.run, part, isAgg_run hE, hd, hv]
theorem Ev.shrN (n : Nat) {k' : IntKind} (hx : look e x = some (.int k a)) (hy : look e y = some (.int k' (n : Int))) (hn : n ≤ k.bits) : Ev P e (.binOp .shr T x y T') w (.int k (a / 2 ^ n)) := .shrC n (2 ^ n) hx hy hn rfl
theorem Ev.shlK (n : Nat) {k' : IntKind} (hx : look e x = some (.int k a)) (hy : look e y = some (.int k' (n : Int))) (hn : n ≤ k.bits) (hr : k.wrap (a * 2 ^ n) = a * 2 ^ n) : Ev P e (.binOp .shl T x y T') w (.int k (a * 2 ^ n)) :=
  fun w' _ ρ hρ o ho => by
    have h1 : ¬ ((n : Int) < 0) := by omega
    have h5 : Op.shift .shl k a k' (n : Int) = Sem.pure (.int k (a * 2 ^ n)) := by
      unfold Op.shift
      rw [if_neg h1]
      simp only [Int.toNat_natCast, Nat.min_eq_left hn, hr]
      rfl
    simp [execOp, ho, hρ _ _ hx, hρ _ _ hy, eqGuard, binOp, h5]
theorem Ev.shlU (n : Nat) {k' : IntKind} (hx : look e x = some (.int .u64 a)) (hy : look e y = some (.int k' (n : Int))) (hn : n ≤ 64) (hr : 0 ≤ a * 2 ^ n ∧ a * 2 ^ n ≤ 18446744073709551615) : Ev P e (.binOp .shl T x y T') w (.int .u64 (a * 2 ^ n)) := .shlK n hx hy hn (IntWalk.u64_in _ hr)
theorem Ev.orU {p q : Nat} (hx : look e x = some (.int .u64 p)) (hy : look e y = some (.int .u64 q)) (hp : p < 18446744073709551616) (hq : q < 18446744073709551616) : Ev P e (.binOp .or T x y T') w (.int .u64 ((p ||| q : Nat) : Int)) :=
  fun w' _ ρ hρ o ho => by
    have h1 : Op.intBits .or .u64 (p : Int) (q : Int) = Sem.pure (.int .u64 ((p ||| q : Nat) : Int)) := by
      show Sem.pure (Value.int .u64 (IntKind.u64.wrap ((BitVec.ofInt 64 (p : Int) ||| BitVec.ofInt 64 (q : Int)).toNat))) = _
      have h2 : (BitVec.ofInt 64 (p : Int) ||| BitVec.ofInt 64 (q : Int)).toNat = p ||| q := by
        rw [BitVec.ofInt_natCast, BitVec.ofInt_natCast, BitVec.toNat_or, BitVec.toNat_ofNat, BitVec.toNat_ofNat, Nat.mod_eq_of_lt (by omega), Nat.mod_eq_of_lt (by omega)]
      have h3 : p ||| q < 2 ^ 64 := Nat.or_lt_two_pow (by omega) (by omega)
      rw [h2, IntWalk.u64_in _ (by omega)]
    simp [execOp, ho, hρ _ _ hx, hρ _ _ hy, eqGuard, binOp, h1]
theorem Ev.convB {d : TypeDesc} (hT : P.underlying T' = some (.int .u8)) (hS : P.underlying T = some d) (hx : look e x = some (.int k a)) (ha : 0 ≤ a) : Ev P e (.convert T T' x) w (u8 (UInt8.ofNat a.toNat)) :=
  (Ev.conv hT hS hx).cast (by rw [IntKind.wrap_u8]; simp; omega)
theorem Ev.convW {d : TypeDesc} (hT : P.underlying T' = some (.int .u32)) (hS : P.underlying T = some d) (hx : look e x = some (.int k a)) (ha : 0 ≤ a) : Ev P e (.convert T T' x) w (u32 (UInt32.ofNat a.toNat)) :=
  (Ev.conv hT hS hx).cast (by rw [IntKind.wrap_u32]; simp; omega)
theorem Ev.conv8_i {d : TypeDesc} {c : UInt8} (hT : P.underlying T' = some (.int .i64)) (hS : P.underlying T = some d) (hx : look e x = some (u8 c)) : Ev P e (.convert T T' x) w (i64 c.toNat) :=
  .convI hT hS hx (by have := c.toNat_lt; omega)
theorem Ev.conv8_U {d : TypeDesc} {c : UInt8} (hT : P.underlying T' = some (.int .u64)) (hS : P.underlying T = some d) (hx : look e x = some (u8 c)) : Ev P e (.convert T T' x) w (.int .u64 c.toNat) :=
  .convU hT hS hx (by have := c.toNat_lt; omega)
theorem Ev.conv32_U {d : TypeDesc} {c : UInt32} (hT : P.underlying T' = some (.int .u64)) (hS : P.underlying T = some d) (hx : look e x = some (u32 c)) : Ev P e (.convert T T' x) w (.int .u64 c.toNat) :=
  .convU hT hS hx (by have := c.toNat_lt; omega)

theorem DoV.makeCap {l n : Int} {k k' : IntKind} {ti : TypeInfo} {z0 : Value} {n1 n2 : Operand} (h1 : look e n1 = some (.int k l)) (h2 : look e n2 = some (.int k' n)) (hT : P.underlying T = some (.slice E)) (hE : P.info? E = some ti) (hz : ti.zero = some z0) (hs : ti.size = 1) (hc : z0.cells = #[z0]) {eb : Nat} (hby : ti.bytes = eb)
    (hn : 0 ≤ l ∧ l ≤ n ∧ (eb : Int) * n ≤ 281474976710656 ∧ n ≤ 9223372036854775807) :
    DoV P e (.makeSlice T n1 n2) w (fun v w2 => v = .slice (some ⟨w.heap.size, 0, none⟩) l.toNat n.toNat ∧ New w w2 E (List.replicate n.toNat z0)) := by
  intro w' hw ρ hρ o ho
  subst hby
  have hr := run_make (P := P) w' T E ti z0 hT hE hz k k' l n hn.1 hn.2.1 hn.2.2.1 hn.2.2.2
  refine ⟨.slice (some ⟨w.heap.size, 0, none⟩) l.toNat n.toNat, w.alloc (.cells (List.replicate n.toNat z0).toArray E), w'.alloc (.cells (List.replicate n.toNat z0).toArray E), ?_, hw.alloc _, rfl, New.alloc _ _ _⟩
  have h3 : madeCells z0.cells (n.toNat * ti.size) = (List.replicate n.toNat z0).toArray := by
    apply Array.ext'
    rw [hc, hs, Nat.mul_one, toList_madeCells_one]
  rw [h3] at hr
  simp only [execOp, ho, hρ _ _ h1, hρ _ _ h2, Sem.run_bind, hr, Result.andThen_ok, hw.heap]
  rfl
theorem Own.ofMake {α : Type} {t : Ty α} {Q : Nat → Prop} {w2 : World} {n : Nat} {z0 : Value} (N : New w w2 E (List.replicate n z0)) (h1 : t.size = 1) : Own t Q E w2 (.slice (some ⟨w.heap.size, 0, none⟩) 0 n) [] w.heap.size :=
  ⟨by show 0 < Lim; decide, .inr ⟨n, [], List.replicate n z0, rfl, Nat.zero_le _, .nil, N.blk, by simp [flat, h1]⟩⟩
theorem run_copy_call {ρ : Operand → Value} {ats : Array TypeId} {w w' : World} {o : Oper} (ho : o.op = .call { callee := .builtin .copy, args := #[x, y], argTypes := ats }) {r : Value} (h : (Builtin.copy_ ats o.type #[ρ x, ρ y]).run P w = .ok r w') :
    (execOp ρ o).run P w = .ok (.value r) w' := by
  simp [execOp, ho, resolve, invoke, builtin, h]
/-- bytes copied into a block of the call's own -/
theorem DoV.copyB {Q : Nat → Prop} {l : Bs} {c o dn dc : Nat} {cs : List Value} {T' : TypeId} (hx : look e x = some (.slice (some ⟨c, o, none⟩) dn dc)) (hB : Blk w c E cs) (hy : look e y = some u) (hu : tBytes.rep Q w u l) (hT : P.underlying T = some (.slice E)) (hs : sizeIs P E 1) (hfit : o + min l.length dn ≤ cs.length) :
    DoV P e (.call { callee := .builtin .copy, args := #[x, y], argTypes := #[T, T'] }) w (fun r w2 => r = i64 (min l.length dn : Nat) ∧ Put w w2 c E (cs.take o ++ (l.take (min l.length dn)).map u8 ++ cs.drop (o + min l.length dn))) := by
  intro w' hw ρ hρ op ho
  obtain ⟨hl, au, cap, rfl, hc, h⟩ := Sl.bytes hu
  have hB' : Blk w' c E cs := hB.keep (by rw [hw.heap])
  have hlen : ((l.take (min l.length dn)).map u8).length = min l.length dn := by simp
  have key : ∃ w2 w3, (execOp ρ op).run P w' = .ok (.value (i64 (min l.length dn : Nat))) w3 ∧ Same w2 w3 ∧ w2 = putCells w c o ((l.take (min l.length dn)).map u8) := by
    rcases h with ⟨rfl, rfl⟩ | ⟨b0, o0, rfl, hb, hlt, hcs⟩
    · refine ⟨w, w', run_copy_call ho ?_, hw, by simp [putCells]⟩
      rw [hρ _ _ hx, hρ _ _ hy]
      have := run_copy_none (P := P) w' T T' op.type E (some ⟨c, o, none⟩) au dn dc 0 0 hT hs (Nat.zero_min dn)
      simpa [goInt] using this
    · refine ⟨putCells w c o ((l.take (min l.length dn)).map u8), putCells w' c o ((l.take (min l.length dn)).map u8), run_copy_call ho ?_, hw.putCells c _ _, rfl⟩
      rw [hρ _ _ hx, hρ _ _ hy]
      have := run_copy_cells (P := P) w' T T' op.type E c o dn dc ⟨b0, o0, none⟩ l.length cap ((l.take (min l.length dn)).map u8) hT hs hlen
        (fun j v hj => by
          rw [add_none, hw.cell]
          refine hcs j v ?_
          rw [List.map_take, List.getElem?_take] at hj
          split at hj
          · exact hj
          · cases hj)
        (fun j hj => by rw [hB'.cell, List.getElem?_eq_getElem (by omega)]; rfl) (fun j hj => hB'.thawed _ (by omega)) (by intro v hv; obtain ⟨q, _, rfl⟩ := List.mem_map.1 hv; rfl)
      rw [hlen, ← putCells_setCells] at this
      exact this
  obtain ⟨w2, w3, hr, hs3, rfl⟩ := key
  have hb2 := hB.put ((l.take (min l.length dn)).map u8) o
  rw [splice_eq _ _ _ (by rw [hlen]; exact hfit), hlen] at hb2
  exact ⟨_, _, _, hr, hs3, rfl, hb2, putCells_ext _ _ _ _, putCells_size _ _ _ _⟩
theorem DoV.copyS {l : Bs} {c o dn dc : Nat} {cs : List Value} {T' : TypeId} (hx : look e x = some (.slice (some ⟨c, o, none⟩) dn dc)) (hB : Blk w c E cs) (hy : look e y = some (str l)) (hT : P.underlying T = some (.slice E)) (hs : sizeIs P E 1) (hdn : l.length ≤ dn) (hfit : o + l.length ≤ cs.length) :
    DoV P e (.call { callee := .builtin .copy, args := #[x, y], argTypes := #[T, T'] }) w (fun r w2 => r = i64 l.length ∧ Put w w2 c E (cs.take o ++ l.map u8 ++ cs.drop (o + l.length))) := by
  intro w' hw ρ hρ op ho
  have hB' : Blk w' c E cs := hB.keep (by rw [hw.heap])
  have hmap : (bs l).data.toList.map (fun x => Value.int .u8 (x.toNat : Int)) = l.map u8 := by simp [bs]
  have hlen : (l.map u8).length = l.length := by simp
  have hst := run_storeCells_cells (P := P) c o (l.map u8) 0 w' (fun j hj => by rw [Nat.add_zero, hB'.cell, List.getElem?_eq_getElem (by omega)]; rfl) (fun j hj => by rw [Nat.add_zero]; exact hB'.thawed _ (by omega)) (by simp [Value.oneCell'])
  have hmin : Nat.min (bs l).size dn = l.length := by rw [bs_size]; exact Nat.min_eq_left hdn
  refine ⟨i64 l.length, putCells w c o (l.map u8), putCells w' c o (l.map u8), run_copy_call ho ?_, hw.putCells c _ _, rfl, ?_⟩
  · rw [hρ _ _ hx, hρ _ _ hy]
    simp [Builtin.copy_, run_underlying hT, Builtin.lenOf, Builtin.firstCells, hs.run, hmin]
    rw [hmap, List.take_of_length_le (by simp), hst, putCells_setCells]
    rfl
  · have hb2 := hB.put (l.map u8) o
    rw [splice_eq _ _ _ (by rw [hlen]; exact hfit), hlen] at hb2
    exact ⟨hb2, putCells_ext _ _ _ _, putCells_size _ _ _ _⟩
end
end Go.Proofs.YtpfehnopghffjaaGreatDoor
/-
  From the readings of a row to the kinds of data, and back: a law that returns true and leaves its arguments alone.
-/
namespace Go.Proofs.YtpfehnopghffjaaGreatDoor
open Go Go.ChangeShapes Go.WideShapes Go.ChangeAt Go.RowKit

def isAggV : Value → Bool
  | .agg _ => true
  | _ => false
theorem val_ext {u v : Value} (h : u.cells.toList = v.cells.toList) (ha : isAggV u = isAggV v) : u = v := by
  have h' : u.cells = v.cells := Array.ext' h
  cases u <;> cases v <;> simp_all [Value.cells, isAggV]
/-- whatever reads as data of type T reads as t -/
def Opens (P : Program) (T : TypeId) {α : Type} (t : Ty α) : Prop :=
  ∀ (H : Type) (enc : TypeId × Value → H) (w : World) (fuel : Nat) (cs : List Value) (x : DataW H × List MemPlace),
    DataW.trod enc P w 0 (fun _ => true) true fuel T cs = some x → (x.1.weights P T).all (· ≤ reachBytes) = true → ∃ u y, u.cells.toList = cs ∧ t.rep All w u y ∧ isAggV u = (match P.underlying T with | some d => aggD d | none => false)
section
variable {P : Program} {T E : TypeId}
theorem opens_int (hT : P.underlying T = some (.int .i64)) : Opens P T tInt := by
  intro H enc w fuel cs x h _
  obtain ⟨n, rfl, rfl, hw⟩ := DataW.trod_int hT h
  refine ⟨i64 n, n, rfl, ⟨rfl, ?_⟩, by rw [hT]; rfl⟩
  simpa [Lit.wf, IntKind.min, IntKind.max, IntKind.signed, IntKind.bits] using hw
theorem opens_byte (hT : P.underlying T = some (.int .u8)) : Opens P T tByte := by
  intro H enc w fuel cs x h _
  obtain ⟨n, rfl, rfl, hw⟩ := DataW.trod_int hT h
  have hb : 0 ≤ n ∧ n ≤ 255 := by simpa [Lit.wf, IntKind.min, IntKind.max, IntKind.signed, IntKind.bits] using hw
  refine ⟨.int .u8 n, UInt8.ofNat n.toNat, rfl, ?_, by rw [hT]; rfl⟩
  show Value.int .u8 n = u8 _
  simp only [u8]
  congr 1
  simp
  omega
theorem opens_u32 (hT : P.underlying T = some (.int .u32)) : Opens P T tU32 := by
  intro H enc w fuel cs x h _
  obtain ⟨n, rfl, rfl, hw⟩ := DataW.trod_int hT h
  have hb : 0 ≤ n ∧ n ≤ 4294967295 := by simpa [Lit.wf, IntKind.min, IntKind.max, IntKind.signed, IntKind.bits] using hw
  refine ⟨.int .u32 n, UInt32.ofNat n.toNat, rfl, ?_, by rw [hT]; rfl⟩
  show Value.int .u32 n = u32 _
  simp only [u32]
  congr 1
  simp
  omega
theorem opens_bool (hT : P.underlying T = some .bool) : Opens P T tBool := by
  intro H enc w fuel cs x h _
  obtain ⟨b, rfl, rfl⟩ := DataW.trod_bool hT h
  exact ⟨.bool b, b, rfl, rfl, by rw [hT]; rfl⟩
theorem opens_str (hT : P.underlying T = some .string) : Opens P T tStr := by
  intro H enc w fuel cs x h hwt
  obtain ⟨s, rfl, rfl, hs⟩ := DataW.trod_string hT h
  refine ⟨.string s, s.data.toList, rfl, ⟨by rw [str, ← bs_of], ?_⟩, by rw [hT]; rfl⟩
  have h1 : s.data.toList.length ≤ reachBytes := (List.all_eq_true.1 hwt _ (List.mem_singleton.2 rfl) |> of_decide_eq_true)
  simp only [reachBytes] at h1
  show s.data.toList.length < Lim
  simp only [Lim]
  omega
theorem cells?_spec {w : World} {base : Nat} {a : Addr} {n : Nat} {cs : List Value} (h : w.cells? base a n = some cs) : cs.length = n ∧ ∀ j v, cs[j]? = some v → w.cell? (a.add j) = some v := by
  unfold World.cells? at h
  split at h
  · have key : ∀ (l : List Nat) (cs : List Value), l.mapM (fun i => w.cell? (a.add i)) = some cs → cs.length = l.length ∧ ∀ (j : Nat) (v : Value), cs[j]? = some v → ∃ i, l[j]? = some i ∧ w.cell? (a.add i) = some v := by
      intro l
      induction l with
      | nil => intro cs h; simp at h; subst h; simp
      | cons i l ih =>
        intro cs h
        simp only [List.mapM_cons, Option.pure_def, Option.bind_eq_bind] at h
        cases hx : w.cell? (a.add i) with
        | none => simp [hx] at h
        | some u =>
          cases hr : l.mapM (fun i => w.cell? (a.add i)) with
          | none => simp [hx, hr] at h
          | some us =>
            simp [hx, hr] at h
            subst h
            obtain ⟨h1, h2⟩ := ih us hr
            refine ⟨by simp [h1], fun j v hj => ?_⟩
            cases j with
            | zero => simp at hj; subst hj; exact ⟨i, rfl, hx⟩
            | succ j => simp at hj; obtain ⟨q, hq1, hq2⟩ := h2 j v hj; exact ⟨q, by simpa using hq1, hq2⟩
    obtain ⟨h1, h2⟩ := key _ _ h
    refine ⟨by simpa using h1, fun j v hj => ?_⟩
    obtain ⟨i, hi, hv⟩ := h2 j v hj
    have : i = j := by
      have hlt : j < n := by
        have := (List.getElem?_eq_some_iff.1 hj).1
        simp at h1
        omega
      simp [hlt] at hi
      exact hi.symm
    subst this
    exact hv
  · cases h
theorem weightsAll_mem {H : Type} {e : TypeId} : ∀ {l : List (DataW H)} {d : DataW H}, d ∈ l → (DataW.weightsAll P e l).all (· ≤ reachBytes) = true → (d.weights P e).all (· ≤ reachBytes) = true
  | x :: l, d, hd, h => by
    simp only [DataW.weightsAll, List.all_append, Bool.and_eq_true] at h
    rcases List.mem_cons.1 hd with rfl | hd
    · exact h.1
    · exact weightsAll_mem hd h.2
theorem opens_slice {α : Type} {t : Ty α} (hT : P.underlying T = some (.slice E)) (ho : Opens P E t) (hc : P.cellsOf E = t.size) (hpos : 0 < t.size) (hby : 0 < P.bytesOf E) : Opens P T (Sl t) := by
  intro H enc w fuel cs x h hwt
  have hagg : (match P.underlying T with | some d => aggD d | none => false) = false := by rw [hT]; rfl
  rw [hagg]
  rcases DataW.trod_slice hT h with ⟨rfl, rfl⟩ | ⟨a, len, cap, elems, rest, n, _, rfl, rfl, hb, hl, hm, hlen, hel, hsp, hns⟩
  · exact ⟨.slice none 0 0, [], rfl, Sl.nil, rfl⟩
  · obtain ⟨hrl, hre⟩ := hsp rfl
    simp only [DataW.weights, hT, List.all_cons, List.all_append, Bool.and_eq_true, decide_eq_true_eq, List.length_map] at hwt
    obtain ⟨hw0, hw1, hw2⟩ := hwt
    have hlim : len < Lim := by
      have h1 : (elems.length + rest.length) * 1 ≤ (elems.length + rest.length) * P.bytesOf E := Nat.mul_le_mul_left _ hby
      simp only [reachBytes] at hw0
      simp only [Lim]
      omega
    -- the place
    have hplace : 0 < cap → a.spot = none ∧ a.block < w.heap.size := by
      intro hcap
      have hex : ∃ cs', w.cells? 0 (a.add 0) (P.cellsOf E) = some cs' := by
        have key : ∀ i y, (w.cells? 0 (a.add (i * P.cellsOf E)) (P.cellsOf E)).bind (DataW.trod enc P w 0 (fun _ => true) true n E) = some y → i = 0 → ∃ cs', w.cells? 0 (a.add 0) (P.cellsOf E) = some cs' := by
          rintro i y h1 rfl
          rw [Nat.zero_mul] at h1
          cases hcc : w.cells? 0 (a.add 0) (P.cellsOf E) with
          | none => rw [hcc] at h1; cases h1
          | some cs' => exact ⟨cs', rfl⟩
        by_cases h0 : 0 < len
        · exact key 0 _ ((hel 0 h0).trans (List.getElem?_eq_getElem (by omega))) rfl
        · exact key (len + 0) _ ((hre 0 (by omega)).trans (List.getElem?_eq_getElem (by omega))) (by omega)
      obtain ⟨cs', hcs'⟩ := hex
      obtain ⟨h1, h2⟩ := cells?_spec hcs'
      have h3 := h2 0 _ (List.getElem?_eq_getElem (by omega))
      have h4 : (a.add 0).add 0 = a := by simp [Addr.add]
      rw [h4] at h3
      refine ⟨?_, World.block_lt_of_cell? w a h3⟩
      unfold World.cell? at h3
      split at h3
      · cases hs : a.spot with
        | none => rfl
        | some q => simp [hs] at h3
      · cases h3
    by_cases hcap : 0 < cap
    · obtain ⟨hspot, hblk⟩ := hplace hcap
      obtain ⟨b, o, spot⟩ := a
      simp only at hspot
      subst hspot
      -- the elements
      have hone : ∀ i, i < len → ∃ u y, isAggV u = (match P.underlying E with | some d => aggD d | none => false) ∧ t.rep All w u y ∧ Cells w b (o + i * t.size) u.cells.toList := by
        intro i hi
        have h1 := hel i hi
        have hi' : i < elems.length := by omega
        rw [List.getElem?_eq_getElem hi'] at h1
        cases hcc : w.cells? 0 ((⟨b, o, none⟩ : Addr).add (i * P.cellsOf E)) (P.cellsOf E) with
        | none => simp [hcc] at h1
        | some cs' =>
          simp only [hcc, Option.bind_some] at h1
          obtain ⟨u, y, hu, hr, ha⟩ := ho H enc w n cs' _ h1 (weightsAll_mem (List.mem_map_of_mem (List.getElem_mem hi')) hw1)
          refine ⟨u, y, ha, hr, ?_⟩
          obtain ⟨h2, h3⟩ := cells?_spec hcc
          intro j v hj
          rw [hu] at hj
          have := h3 j v hj
          rwa [add_none, add_none, hc] at this
      have hall : ∀ m, m ≤ len → ∃ us xs, Each (t.rep All w) us xs ∧ xs.length = m ∧ Cells w b o (flat us) := by
        intro m
        induction m with
        | zero => intro _; exact ⟨[], [], .nil, rfl, Cells.nil _ _ _⟩
        | succ m ih =>
          intro hm'
          obtain ⟨us, xs, h1, h2, h3⟩ := ih (by omega)
          obtain ⟨u, y, _, hr, hcell⟩ := hone m (by omega)
          refine ⟨us ++ [u], xs ++ [y], h1.append (.cons hr .nil), by simp [h2], ?_⟩
          rw [flat_append]
          refine h3.append ?_
          have hsz := h1.mem (n := t.size) (fun u x h => t.sz h)
          rw [flat_length hsz, h1.length, h2, flat_cons, flat_nil, List.append_nil]
          exact hcell
      obtain ⟨us, xs, h1, h2, h3⟩ := hall len (Nat.le_refl _)
      exact ⟨.slice (some ⟨b, o, none⟩) len cap, xs, rfl, Sl.mk h1 h3 trivial hblk (by omega) (by omega) h2.symm, rfl⟩
    · have h0 : len = 0 := by omega
      have h1 : cap = 0 := by omega
      subst h0 h1
      exact ⟨.slice (some a) 0 0, [], rfl, ⟨by show 0 < Lim; decide, some a, 0, rfl, Nat.le_refl _, .inl ⟨rfl, rfl⟩⟩, rfl⟩
theorem okWide_isAgg {w : World} {r : Reach} {base : Nat} {v : Value} {d : TypeDesc} (hT : P.underlying T = some d) (h : Value.okWide P w r base T v) (hd : (match d with | .int _ | .bool | .string | .slice _ | .struct _ => true | _ => false) = true) : isAggV v = aggD d := by
  cases d <;> simp at hd
  · obtain ⟨b, rfl⟩ := okWide_bool hT h; rfl
  · obtain ⟨n, rfl⟩ := okWide_int hT h; rfl
  · obtain ⟨s, rfl⟩ := okWide_string hT h; rfl
  · obtain ⟨a, l, c, rfl⟩ := okWide_slice hT h; rfl
  · obtain ⟨cs, rfl, _⟩ := okWide_struct hT h; rfl
/-- an argument -/
theorem arg_open {α : Type} {t : Ty α} {H : Type} {enc : TypeId × Value → H} {W : World} {base : Nat} {v : Value} {d : DataW H} {p : List MemPlace} {D : TypeDesc} (ho : Opens P T t) (hT : P.underlying T = some D) (hd : (match D with | .int _ | .bool | .string | .slice _ | .struct _ => true | _ => false) = true)
    (hval : Value.okWide P W .any base T v) (h : DataW.Trod enc P W 0 (fun _ => true) true T v d p) (hw : (d.weights P T).all (· ≤ reachBytes) = true) : ∃ x, t.rep All W v x := by
  obtain ⟨fuel, hf⟩ := h
  obtain ⟨u, y, h1, h2, h3⟩ := ho H enc W fuel _ _ hf hw
  rw [hT] at h3
  have : u = v := val_ext h1 (h3.trans (okWide_isAgg hT hval hd).symm)
  subst this
  exact ⟨y, h2⟩
end

theorem weights_at {H : Type} {P : Program} {ts : List TypeId} {ds : List (DataW H)} (h : (DataW.weightsEach P ts ds).all (· ≤ reachBytes) = true) {j : Nat} {t : TypeId} {d : DataW H} (ht : ts[j]? = some t) (hd : ds[j]? = some d) : (d.weights P t).all (· ≤ reachBytes) = true :=
  List.all_eq_true.2 (fun n hn => List.all_eq_true.1 h _ (DataW.weights_mem_each ht hd n hn))
theorem trodAll_stays {H : Type} {enc : TypeId × Value → H} {P : Program} (hl : laidOutB P = true) {W W' : World} (hb : Below W.heap.size W W') (sp : Nat → Bool) : ∀ (ts : List TypeId) (vs : List Value) (ds : List (DataW H)) (ps : List MemPlace), (∀ t ∈ ts, P.readableRec t = true ∧ t < P.types.size) →
    DataW.TrodAll enc P W 0 (fun _ => true) true ts vs ds ps → (∀ x ∈ ps, x.block < W.heap.size) → (∀ x ∈ ps, sp x.block = true) → DataW.TrodAll enc P W' 0 sp true ts vs ds ps
  | [], _, _, _, _, h, _, _ => by obtain ⟨rfl, rfl, rfl⟩ := trodAll_nil h; rfl
  | t :: ts, _, _, _, hr, h, hlt, hsp => by
    obtain ⟨v, vs, d, ds, p, q, rfl, rfl, rfl, h0, h1⟩ := trodAll_cons h
    refine trodAll_cons_mk ?_ (trodAll_stays hl hb sp ts vs ds q (fun x hx => hr x (by simp [hx])) h1 (fun x hx => hlt x (by simp [hx])) (fun x hx => hsp x (by simp [hx])))
    exact WideElems.Trod_stays hl (hr t (by simp)).1 (hr t (by simp)).2 h0 (fun x hx => hb.same (hlt x (by simp [hx]))) (fun x hx => hsp x (by simp [hx]))
/-- what a law owes: it returned true; nothing that was there has turned -/
theorem post_true {H : Type} {enc : TypeId × Value → H} {P : Program} {f : Func} {s : ChangeSpec} {W W' : World} {args : Array Value} {ds gs : List (DataW H)} {before : List MemPlace} {B : TypeId}
    (hl : laidOutB P = true) (hr : ∀ t ∈ f.params.toList, P.readableRec t = true ∧ t < P.types.size) (hvs : s.vars = []) (hres : f.resultTypes = #[B]) (hB : P.underlying B = some .bool)
    (hfn : s.fn H ds = { results := [.lit (.bool true)], args := ds })
    (hW : DataW.Whole enc P f.params.toList s.vars false W args.toList ds gs before) (hb : Below W.heap.size W W') :
    s.post enc P f false true false false W args (.bool true) W' := by
  have hW' := hW
  have hlt := hW.lt
  obtain ⟨p, q, hA, hV, rfl, hz, hn⟩ := hW
  rw [hvs] at hV
  obtain ⟨rfl, rfl⟩ := trodVars_none hV
  simp only [List.append_nil] at hW' hlt hz
  have hr1 : ∀ (b : Nat) (sp : Nat → Bool) (hd : Bool), DataW.TrodAll enc P W' b sp hd f.resultTypes.toList ((Value.bool true).resultList f.resultTypes.size) (s.fn H (ds ++ [])).results [] := by
    intro b sp hd
    rw [List.append_nil, hfn, hres]
    exact trodAll_cons_mk (shut_bool hB _) trodAll_mk0
  have ha : ∀ sp : Nat → Bool, (∀ x ∈ p, sp x.block = true) → DataW.TrodAll enc P W' 0 sp true f.params.toList args.toList (s.fn H (ds ++ [])).args p := by
    intro sp hsp
    rw [List.append_nil, hfn]
    exact trodAll_stays hl hb sp _ _ _ _ hr hA hlt hsp
  have hv : ∀ sp : Nat → Bool, DataW.TrodVars enc P W' sp s.vars (s.fn H (ds ++ [])).vars [] := by
    intro sp
    rw [List.append_nil, hfn, hvs]
    rfl
  have hold : ∀ x ∈ p, (fun b => decide (b < W.heap.size)) x.block = true := fun x hx => by simpa using hlt x hx
  refine ⟨ds, [], p, [], p, [], hW', hr1 _ _ _, ha _ hold, hv _, World.keptBut_mono (fun x hx => ⟨hx, Or.inr (Or.inl hx)⟩) (hb.frame (· ∈ p)), fun _ => ?_⟩
  refine ⟨ok_one hres rfl (okWide_bool_mk hB _), _, _, ([] ++ p) ++ [], ⟨[] ++ p, [], trodAll_append (ha _ (fun _ _ => rfl)) (hr1 _ _ _), hv _, rfl, ?_, ?_⟩, ?_⟩
  · intro b off hp
    simp only [List.nil_append, List.append_nil] at hp
    have h1 := hlt _ hp
    rw [hb.frozen (p := ⟨b, off, none⟩) h1]
    exact hz b off hp
  · intro ha; cases ha
  · intro x hx _
    simpa using hx
/-- from a function's contract to what the row asks -/
theorem law_calls {H : Type} {enc : TypeId × Value → H} {P : Program} {n : FuncId} {f : Func} {s : ChangeSpec} {W : World} {args : List Value} {ds gs : List (DataW H)} {before : List MemPlace} {B : TypeId}
    (hl : laidOutB P = true) (hr : ∀ t ∈ f.params.toList, P.readableRec t = true ∧ t < P.types.size) (hvs : s.vars = []) (hres : f.resultTypes = #[B]) (hB : P.underlying B = some .bool)
    (hfn : s.fn H ds = { results := [.lit (.bool true)], args := ds })
    (hW : DataW.Whole enc P f.params.toList s.vars false W args.toArray.toList ds gs before) (hc : Fn P n args W (fun r w2 => r = .bool true ∧ Ext (fun _ => False) W w2)) :
    Calls P n args.toArray W fun e W' => ∃ v, e = .returned v ∧ s.post enc P f false true false false W args.toArray v W' := by
  refine (hc.2 W (.refl W)).mono fun e W' ⟨r, w2, hs, he, hr', hx⟩ => ?_
  subst he hr'
  exact ⟨_, rfl, post_true hl hr hvs hres hB hfn hW (hx.trans (.same hs)).below⟩
end Go.Proofs.YtpfehnopghffjaaGreatDoor
