
/-
  Slices of a call's own, that grow: append; literals of slices; copy. No program in sight.
-/
import Derived.Test.YthkgadhamecnlaaEff
import Derived.Deep.AppendSrc
import Derived.Deep.Upon
import Derived.Laws.AppendOwn
set_option linter.unusedVariables false
set_option linter.unusedSimpArgs false
namespace Go.Proofs.Ythkgadhamecnlaa
open Go

/-- a slice of the call's own, in block b, with its spare room; what its elements lead to lies in Q -/
def Own {α : Type} (t : Ty α) (Q : Nat → Prop) (E : TypeId) (w : World) (v : Value) (xs : List α) (b : Nat) : Prop :=
  xs.length < Lim ∧ ((xs = [] ∧ v = .slice none 0 0) ∨
    ∃ cap us sp, v = .slice (some ⟨b, 0, none⟩) xs.length cap ∧ xs.length ≤ cap ∧ Each (t.rep Q w) us xs ∧ Blk w b E (flat us ++ sp) ∧ (flat us ++ sp).length = cap * t.size)
section
variable {α : Type} {t : Ty α} {Q : Nat → Prop} {E : TypeId} {w w' : World} {v : Value} {xs ys : List α} {b : Nat}
theorem Own.nil : Own t Q E w (.slice none 0 0) [] b := ⟨by show 0 < Lim; decide, .inl ⟨rfl, rfl⟩⟩
theorem Own.ext {S : Nat → Prop} (h : Own t Q E w v xs b) (hx : Ext S w w') (hs : ¬ S b) (hq : ∀ k, Q k → k < w.heap.size → ¬ S k) : Own t Q E w' v xs b := by
  obtain ⟨hl, h | ⟨cap, us, sp, hv, hc, he, hb, hn⟩⟩ := h
  · exact ⟨hl, .inl h⟩
  · exact ⟨hl, .inr ⟨cap, us, sp, hv, hc, he.imp (fun u x hu => t.ext hu hx hq), hb.ext hx hs, hn⟩⟩
theorem Own.ext0 (h : Own t Q E w v xs b) (hx : Ext (fun _ => False) w w') : Own t Q E w' v xs b := h.ext hx (fun x => x) (fun _ _ _ x => x)
theorem Own.mono {Q' : Nat → Prop} (h : Own t Q E w v xs b) (hq : ∀ k, Q k → k < w.heap.size → Q' k) : Own t Q' E w v xs b := by
  obtain ⟨hl, h | ⟨cap, us, sp, hv, hc, he, hb, hn⟩⟩ := h
  · exact ⟨hl, .inl h⟩
  · exact ⟨hl, .inr ⟨cap, us, sp, hv, hc, he.imp (fun u x hu => t.mono hu hq), hb, hn⟩⟩
theorem Own.rep {Q' : Nat → Prop} (h : Own t Q E w v xs b) (hb : Q' b) (hq : ∀ k, Q k → k < w.heap.size → Q' k) : (Sl t).rep Q' w v xs := by
  obtain ⟨hl, ⟨rfl, rfl⟩ | ⟨cap, us, sp, rfl, hc, he, hB, hn⟩⟩ := h
  · exact Sl.nil
  · exact Sl.mk (he.imp (fun u x hu => t.mono hu hq)) hB.cells.left hb hB.lt hc hl rfl
theorem Own.lt (h : Own t Q E w v xs b) (hne : xs ≠ []) : b < w.heap.size := by
  obtain ⟨hl, ⟨rfl, rfl⟩ | ⟨cap, us, sp, rfl, hc, he, hB, hn⟩⟩ := h
  · exact absurd rfl hne
  · exact hB.lt
theorem Own.lim (h : Own t Q E w v xs b) : xs.length < Lim := h.1
theorem Own.val (h : Own t Q E w v xs b) : ∃ a cap, v = .slice a xs.length cap ∧ xs.length ≤ cap := by
  obtain ⟨hl, ⟨rfl, rfl⟩ | ⟨cap, us, sp, rfl, hc, _⟩⟩ := h
  · exact ⟨none, 0, rfl, Nat.le_refl _⟩
  · exact ⟨_, cap, rfl, hc⟩
theorem Own.ofText {l : Bs} {cap : Nat} {cs : List Value} (N : New w w' E cs) (hl : l.length < Lim) (hc : l.length ≤ cap) (hn : cs.length = cap) (hs : cs.take l.length = l.map u8) : Own tByte Q E w' (.slice (some ⟨w.heap.size, 0, none⟩) l.length cap) l w.heap.size := by
  have e : flat (l.map u8) ++ cs.drop l.length = cs := by rw [flat_u8, ← hs, List.take_append_drop]
  exact ⟨hl, .inr ⟨cap, l.map u8, cs.drop l.length, rfl, hc, each_u8 l, by rw [e]; exact N.blk, by rw [e, hn]; exact (Nat.mul_one _).symm⟩⟩
/-- what a slice holds, whoever's it is -/
def Holds {α : Type} (t : Ty α) (Q : Nat → Prop) (w : World) (v : Value) (xs : List α) : Prop :=
  (xs = [] ∧ ∃ cap, v = .slice none 0 cap) ∨ ∃ b o cap us, v = .slice (some ⟨b, o, none⟩) xs.length cap ∧ Each (t.rep Q w) us xs ∧ Cells w b o (flat us)
theorem Sl.holds {Q' : Nat → Prop} (h : (Sl t).rep Q' w v xs) (hq : ∀ u x, t.rep Q' w u x → t.rep Q w u x) : (∃ a cap, v = .slice a 0 cap ∧ xs = []) ∨ Holds t Q w v xs := by
  obtain ⟨_, a, cap, rfl, hc, ⟨rfl, rfl⟩ | ⟨b, o, us, rfl, hb, hlt, he, hcs⟩⟩ := h
  · exact .inl ⟨a, 0, rfl, rfl⟩
  · exact .inr (.inr ⟨b, o, cap, us, rfl, he.imp hq, hcs⟩)
theorem New.holds {us : List Value} (N : New w w' E (flat us)) (he : Each (t.rep Q w) us xs) {n cap : Nat} (hn : n = xs.length) : Holds t Q w' (.slice (some ⟨w.heap.size, 0, none⟩) n cap) xs :=
  .inr ⟨w.heap.size, 0, cap, us, by rw [hn], he.imp (fun u x h => t.ext0 h N.ext), N.blk.cells⟩
theorem Own.ofNew {us : List Value} (N : New w w' E (flat us)) (he : Each (t.rep Q w) us xs) (hl : xs.length < Lim) {n cap : Nat} (hn : n = xs.length) (hc : cap = xs.length) : Own t Q E w' (.slice (some ⟨w.heap.size, 0, none⟩) n cap) xs w.heap.size := by
  subst hn; subst hc
  refine ⟨hl, .inr ⟨xs.length, us, [], rfl, Nat.le_refl _, he.imp (fun u x h => t.ext0 h N.ext), by rw [List.append_nil]; exact N.blk, ?_⟩⟩
  rw [List.append_nil, flat_length (he.mem (n := t.size) (fun u x h => t.sz h)), he.length]
end
theorem each_int {P : Nat → Prop} {w : World} {l : List Int} (h : ∀ x ∈ l, -9223372036854775808 ≤ x ∧ x ≤ 9223372036854775807) : Each (tInt.rep P w) (l.map i64) l := Each.mapMem i64 (fun x hx => ⟨rfl, h x hx⟩)
theorem each_str {P : Nat → Prop} {w : World} {l : List Bs} (h : ∀ x ∈ l, x.length < Lim) : Each (tStr.rep P w) (l.map str) l := Each.mapMem str (fun x hx => ⟨rfl, h x hx⟩)
theorem putCells_setCells (b : Nat) : ∀ (vs : List Value) (o : Nat) (w : World), putCells w b o vs = w.setCells b o vs
  | [], _, _ => rfl
  | v :: r, o, w => by rw [putCells, World.setCells, putCells_setCells b r]

section
variable {P : Program} {e : Env} {w : World} {x y : Operand} {T Tr E : TypeId} {v u : Value} {α : Type} {t : Ty α} {Q : Nat → Prop} {xs ys : List α} {b : Nat}
theorem each_one {us : List Value} {R : Value → α → Prop} (h : Each R us xs) (hr : ∀ u x, R u x → ∀ c ∈ u.cells.toList, c.oneCell' = true) : ∀ c ∈ flat us, c.oneCell' = true := by
  induction h with
  | nil => intro c hc; cases hc
  | cons h1 _ ih =>
    intro c hc
    rw [flat_cons, List.mem_append] at hc
    rcases hc with hc | hc
    · exact hr _ _ h1 c hc
    · exact ih c hc
theorem run_append_call {ρ : Operand → Value} {ats : Array TypeId} {w w' : World} {o : Oper} (ho : o.op = .call { callee := .builtin .append, args := #[x, y], argTypes := ats }) {r : Value} (h : (Builtin.append_ ats o.type #[ρ x, ρ y]).run P w = .ok r w') :
    (execOp ρ o).run P w = .ok (.value r) w' := by
  simp [execOp, ho, resolve, invoke, builtin, h]
/-- what is appended: what an operand yields; nothing from the block that is written, but what is copied -/
theorem DoV.appendOf {i : TypeInfo} {z : Value} {eb : Nat} {T' : TypeId} (hx : look e x = some v) (hv : Own t Q E w v xs b) (hy : look e y = some u) (hsrc0 : ∀ w', Same w w' → ∃ us, Each (t.rep Q w) us ys ∧ Src P t.size T' u ys.length (flat us) w')
    (hT : P.underlying T = some (.slice E)) (hi : P.info? E = some i) (hz : i.zero = some z) (hs : i.size = t.size) (hzs : z.cells.size = t.size) (hby : i.bytes = eb) (hlim : (xs.length + ys.length) * eb ≤ 140737488355328) (hlen : xs.length + ys.length < Lim) (hq : ∀ k, Q k → k < w.heap.size → k ≠ b) :
    DoV P e (.call { callee := .builtin .append, args := #[x, y], argTypes := #[T, T'] }) w (fun r w2 => ∃ b', Own t (fun k => Q k ∧ k ≠ b') E w2 r (xs ++ ys) b' ∧ Ext (· = b) w w2 ∧ (b' = b ∨ b' = w.heap.size)) := by
  intro w' hw ρ hρ o ho
  subst hby
  have hsrc := hsrc0 w' hw
  rw [← hs] at hsrc
  obtain ⟨us, hes, hsrc⟩ := hsrc
  have husl : (flat us).length = ys.length * t.size := by rw [flat_length (hes.mem (n := t.size) (fun u x h => t.sz h)), hes.length]
  obtain ⟨hl, hown⟩ := hv
  have hgrow : ∀ (base : Option Addr) (sCap : Nat) (vs : List Value), v = .slice base xs.length sCap → (Builtin.firstCells i.size xs.length (.slice base xs.length sCap)).run P w'.drew = .ok (flat vs).toArray w'.drew → Each (t.rep Q w) vs xs → sCap < xs.length + ys.length →
      ∃ r w2 w3, (execOp ρ o).run P w' = .ok (.value r) w3 ∧ Same w2 w3 ∧ ∃ b', Own t (fun k => Q k ∧ k ≠ b') E w2 r (xs ++ ys) b' ∧ Ext (· = b) w w2 ∧ (b' = b ∨ b' = w.heap.size) := by
    intro base sCap vs hvv hfc hev hg
    have hge := grownCap_ge w' (xs.length + ys.length) sCap E
    generalize hcap : grownCap w' (xs.length + ys.length) sCap E = cap at hge
    have hr := run_append_grow_src (P := P) w' T T' o.type E i z hT hi hz base xs.length sCap (flat vs) hfc u ys.length (flat us) hsrc hg (by simp only [Lim] at hlen; omega) (growslice_fits hg hlim)
    rw [hcap] at hr
    have hcs : (flat vs ++ flat us).toArray ++ Builtin.zeroCells z.cells (cap - (xs.length + ys.length)) = (flat (vs ++ us) ++ (Builtin.zeroCells z.cells (cap - (xs.length + ys.length))).toList).toArray := by
      apply Array.ext'; simp [flat_append]
    rw [hcs] at hr
    let cs := flat (vs ++ us) ++ (Builtin.zeroCells z.cells (cap - (xs.length + ys.length))).toList
    have hext : Ext (fun _ => False) w (w.alloc (.cells cs.toArray E)) := Ext.alloc w _
    have hsz : (w.alloc (.cells cs.toArray E)).heap.size = w.heap.size + 1 := by simp
    refine ⟨.slice (some ⟨w.heap.size, 0, none⟩) (xs.length + ys.length) cap, w.alloc (.cells cs.toArray E), w'.drew.alloc (.cells cs.toArray E), ?_, (hw.trans (same_draw w')).alloc _, w.heap.size, ?_, hext.mono (fun _ _ hf => hf.elim), .inr rfl⟩
    · rw [hw.heap] at hr
      refine run_append_call ho ?_
      rw [hρ _ _ hx, hρ _ _ hy, hvv]
      exact hr
    · refine ⟨by rw [List.length_append]; exact hlen, .inr ⟨cap, vs ++ us, (Builtin.zeroCells z.cells (cap - (xs.length + ys.length))).toList, by rw [List.length_append], by rw [List.length_append]; exact hge, ?_, Blk.alloc _ _ _, ?_⟩⟩
      · exact (hev.append hes).imp (fun u x h => t.ext0 (t.mono h (fun k hk hlt => ⟨hk, Nat.ne_of_lt hlt⟩)) hext)
      · have h1 := hev.append hes
        rw [List.length_append, flat_length (h1.mem (n := t.size) (fun u x h => t.sz h)), h1.length, show (Builtin.zeroCells z.cells (cap - (xs.length + ys.length))).toList.length = (cap - (xs.length + ys.length)) * t.size by rw [Array.length_toList, size_zeroCells, hzs], List.length_append, ← Nat.add_mul]
        congr 1
        omega
  rcases hown with ⟨rfl, rfl⟩ | ⟨cap, us0, sp, rfl, hc0, he0, hB, hn0⟩
  · by_cases h0 : ys = []
    · subst h0
      refine ⟨.slice none 0 0, w, w', run_append_call ho ?_, hw, b, Own.nil, .refl w, .inl rfl⟩
      rw [hρ _ _ hx, hρ _ _ hy]
      have hus : us = [] := by cases hes; rfl
      subst hus
      exact run_append_nothing (P := P) w' T T' o.type E i hT hi none 0 0 (Nat.le_refl _) u hsrc
    · exact hgrow none 0 [] rfl (by exact run_firstCells_none w'.drew i.size 0 0 0) .nil (by have := List.length_pos_iff.2 h0; simp; omega)
  · by_cases hroom : xs.length + ys.length ≤ cap
    · have hul : (flat us0).length = xs.length * t.size := by rw [flat_length (he0.mem (n := t.size) (fun u x h => t.sz h)), he0.length]
      have hfit : xs.length * t.size + (flat us).length ≤ (flat us0 ++ sp).length := by
        rw [hn0, husl, ← Nat.add_mul]
        exact Nat.mul_le_mul_right _ hroom
      have hB' : Blk w' b E (flat us0 ++ sp) := hB.keep (by rw [hw.heap])
      have h1 : ∀ u ∈ flat us, u.oneCell' = true := each_one hes (fun u x h => t.one h)
      have hr := run_append_room_src (P := P) w' T T' o.type E i hT hi b 0 xs.length cap u ys.length (flat us) hsrc hroom
        (fun j hj => by rw [hB'.cell, hs, Nat.zero_add]; rw [List.getElem?_eq_getElem (by omega)]; rfl) (fun j hj => hB'.thawed _ (by rw [hs]; omega))
      rw [← putCells_setCells, hs, Nat.zero_add] at hr
      refine ⟨.slice (some ⟨b, 0, none⟩) (xs.length + ys.length) cap, putCells w b (xs.length * t.size) (flat us), putCells w' b (xs.length * t.size) (flat us), run_append_call ho ?_, hw.putCells b _ _, b, ?_, putCells_ext _ _ _ _, .inl rfl⟩
      · rw [hρ _ _ hx, hρ _ _ hy]
        exact hr
      · have hb2 := hB.put (flat us) (xs.length * t.size)
        rw [splice_eq _ _ _ hfit] at hb2
        have e1 : (flat us0 ++ sp).take (xs.length * t.size) ++ flat us ++ (flat us0 ++ sp).drop (xs.length * t.size + (flat us).length) = flat (us0 ++ us) ++ sp.drop (flat us).length := by
          rw [List.take_left' hul, ← List.drop_drop, List.drop_left' hul, flat_append]
        rw [e1] at hb2
        refine ⟨by rw [List.length_append]; exact hlen, .inr ⟨cap, us0 ++ us, sp.drop (flat us).length, by rw [List.length_append], by rw [List.length_append]; exact hroom, ?_, hb2, ?_⟩⟩
        · refine (he0.append hes).imp (fun u x h => ?_)
          have hne := t.mono h (P' := fun k => Q k ∧ k ≠ b) (fun k hk hlt => ⟨hk, hq k hk hlt⟩)
          exact t.ext hne (putCells_ext _ _ _ _) (fun k hk _ => hk.2)
        · have h2 : (flat us0 ++ sp).length = xs.length * t.size + sp.length := by rw [List.length_append, hul]
          rw [List.length_append, List.length_drop, flat_append, List.length_append, hul, ← hn0, h2]
          omega
    · refine hgrow _ cap us0 rfl ?_ he0 (by omega)
      refine run_firstCells_some (P := P) w'.drew i.size xs.length _ _ _ (flat us0) ?_ (fun j u hj => ?_)
      · rw [flat_length (he0.mem (n := t.size) (fun u x h => t.sz h)), he0.length, hs]
      · rw [add_none]
        have hb' : Blk w' b E (flat us0 ++ sp) := hB.keep (by rw [hw.heap])
        have := hb'.cells.left j u hj
        simpa using this
theorem src_holds {T' : TypeId} (hu : (∃ a cap, u = .slice a 0 cap ∧ ys = []) ∨ Holds t Q w u ys) (hT' : P.underlying T' = some (.slice E)) {w' : World} (hw : Same w w') : ∃ us, Each (t.rep Q w) us ys ∧ Src P t.size T' u ys.length (flat us) w' := by
  rcases hu with ⟨a, cap, rfl, rfl⟩ | ⟨rfl, cap, rfl⟩ | ⟨b0, o0, cap, us, rfl, he, hc⟩
  · refine ⟨[], .nil, ?_⟩
    cases a with
    | none => exact Src.ofNil w' hT' cap
    | some a => exact Src.ofSlice w' hT' a 0 cap [] (by simp) (by simp) (by simp)
  · exact ⟨[], .nil, Src.ofNil w' hT' cap⟩
  · refine ⟨us, he, Src.ofSlice w' hT' _ _ _ _ ?_ (fun j u hj => ?_) (each_one he (fun u x h => t.one h))⟩
    · rw [flat_length (he.mem (n := t.size) (fun u x h => t.sz h)), he.length]
    · rw [add_none]
      rw [hw.cell]
      exact hc j u hj
theorem DoV.append {i : TypeInfo} {z : Value} {eb : Nat} {T' : TypeId} (hx : look e x = some v) (hv : Own t Q E w v xs b) (hy : look e y = some u) (hu : (∃ a cap, u = .slice a 0 cap ∧ ys = []) ∨ Holds t Q w u ys)
    (hT : P.underlying T = some (.slice E)) (hT' : P.underlying T' = some (.slice E)) (hi : P.info? E = some i) (hz : i.zero = some z) (hs : i.size = t.size) (hzs : z.cells.size = t.size) (hby : i.bytes = eb) (hlim : (xs.length + ys.length) * eb ≤ 140737488355328) (hlen : xs.length + ys.length < Lim) (hq : ∀ k, Q k → k < w.heap.size → k ≠ b) :
    DoV P e (.call { callee := .builtin .append, args := #[x, y], argTypes := #[T, T'] }) w (fun r w2 => ∃ b', Own t (fun k => Q k ∧ k ≠ b') E w2 r (xs ++ ys) b' ∧ Ext (· = b) w w2 ∧ (b' = b ∨ b' = w.heap.size)) :=
  .appendOf hx hv hy (fun _ hw => src_holds hu hT' hw) hT hi hz hs hzs hby hlim hlen hq
theorem DoV.appendS {i : TypeInfo} {z : Value} {T' : TypeId} {bx l : Bs} (hx : look e x = some v) (hv : Own tByte Q E w v bx b) (hy : look e y = some (str l))
    (hT : P.underlying T = some (.slice E)) (hT' : P.underlying T' = some .string) (hi : P.info? E = some i) (hz : i.zero = some z) (hs : i.size = 1) (hzs : z.cells.size = 1) (hby : i.bytes = 1) (hlen : bx.length + l.length < Lim) (hq : ∀ k, Q k → k < w.heap.size → k ≠ b) :
    DoV P e (.call { callee := .builtin .append, args := #[x, y], argTypes := #[T, T'] }) w (fun r w2 => ∃ b', Own tByte (fun k => Q k ∧ k ≠ b') E w2 r (bx ++ l) b' ∧ Ext (· = b) w w2 ∧ (b' = b ∨ b' = w.heap.size)) :=
  .appendOf (eb := 1) hx hv hy (fun w' hw => ⟨l.map u8, each_u8 l, by
    have h := Src.ofString (P := P) w' hT' (bs l)
    have e1 : byteCells (bs l) = flat (l.map u8) := by rw [flat_u8]; simp [byteCells, bs]
    rw [bs_size, e1] at h
    exact h⟩) hT hi hz hs hzs hby (by simp only [Lim] at hlen; omega) hlen hq
/-- a literal of a slice, its elements in their order -/
theorem DoV.lits {ps : List (Nat × Operand)} {vs : List (Nat × Value)} {n : Nat} (hp : ps.mapM (fun p => (look e p.2).map (fun v => (p.1, v))) = some vs) (hT : P.underlying T = some (.slice E)) (hb : ∀ w, (Instr.buildSlice T n vs.toArray).run P w = .ok (.slice (some ⟨w.heap.size, 0, none⟩) n n) (w.alloc (.cells (flat (vs.map (·.2))).toArray E))) :
    DoV P e (.buildSlice T n ps.toArray) w (fun v w2 => v = .slice (some ⟨w.heap.size, 0, none⟩) n n ∧ New w w2 E (flat (vs.map (·.2)))) := by
  intro w' hw ρ hρ o ho
  have := look_pairs hρ ps vs hp
  refine ⟨_, w.alloc (.cells (flat (vs.map (·.2))).toArray E), w'.alloc (.cells (flat (vs.map (·.2))).toArray E), ?_, hw.alloc _, rfl, New.alloc _ _ _⟩
  simp only [execOp, ho, Sem.run_bind, List.map_toArray, this, hb, Result.andThen_ok, hw.heap]
  rfl
theorem DoV.buildSlice {ps : List (Nat × Operand)} {vs : List (Nat × Value)} {cs : List Value} {n : Nat} (hp : ps.mapM (fun p => (look e p.2).map (fun v => (p.1, v))) = some vs) (hb : ∀ w, (Instr.buildSlice T n vs.toArray).run P w = .ok (.slice (some ⟨w.heap.size, 0, none⟩) n n) (w.alloc (.cells cs.toArray E))) :
    DoV P e (.buildSlice T n ps.toArray) w (fun v w2 => v = .slice (some ⟨w.heap.size, 0, none⟩) n n ∧ New w w2 E cs) := by
  intro w' hw ρ hρ o ho
  have := look_pairs hρ ps vs hp
  refine ⟨_, w.alloc (.cells cs.toArray E), w'.alloc (.cells cs.toArray E), ?_, hw.alloc _, rfl, New.alloc _ _ _⟩
  simp only [execOp, ho, Sem.run_bind, List.map_toArray, this, hb, Result.andThen_ok, hw.heap]
  rfl
end
end Go.Proofs.Ythkgadhamecnlaa
