
/-
  Appends behind which the slice that was appended to is still told.
-/
import Derived.Test.YtapdacjpmmjlhaaApp
set_option linter.unusedVariables false
set_option linter.unusedSimpArgs false
namespace Go.Proofs.Ytapdacjpmmjlhaa
open Go
section
variable {P : Program} {e : Env} {w : World} {x y : Operand} {T Tr E : TypeId} {v u : Value} {α : Type} {t : Ty α} {Q : Nat → Prop} {xs ys : List α} {b : Nat}
theorem DoV.appendOfK {i : TypeInfo} {z : Value} {eb : Nat} {T' : TypeId} (hx : look e x = some v) (hv : Own t Q E w v xs b) (hy : look e y = some u) (hsrc0 : ∀ w', Same w w' → ∃ us, Each (t.rep Q w) us ys ∧ Src P t.size T' u ys.length (flat us) w')
    (hT : P.underlying T = some (.slice E)) (hi : P.info? E = some i) (hz : i.zero = some z) (hs : i.size = t.size) (hzs : z.cells.size = t.size) (hby : i.bytes = eb) (hlim : (xs.length + ys.length) * eb ≤ 140737488355328) (hlen : xs.length + ys.length < Lim) (hq : ∀ k, Q k → k < w.heap.size → k ≠ b) :
    DoV P e (.call { callee := .builtin .append, args := #[x, y], argTypes := #[T, T'] }) w (fun r w2 => ∃ b', Own t (fun k => Q k ∧ k ≠ b') E w2 r (xs ++ ys) b' ∧ Ext (· = b) w w2 ∧ (b' = b ∨ b' = w.heap.size) ∧ (∀ R : Nat → Prop, R b → (∀ k, Q k → R k) → (Sl t).rep R w2 v xs)) := by
  intro w' hw ρ hρ o ho
  subst hby
  have hsrc := hsrc0 w' hw
  rw [← hs] at hsrc
  obtain ⟨us, hes, hsrc⟩ := hsrc
  have husl : (flat us).length = ys.length * t.size := by rw [flat_length (hes.mem (n := t.size) (fun u x h => t.sz h)), hes.length]
  have hv0 := hv
  obtain ⟨hl, hown⟩ := hv
  have hgrow : ∀ (base : Option Addr) (sCap : Nat) (vs : List Value), v = .slice base xs.length sCap → (Builtin.firstCells i.size xs.length (.slice base xs.length sCap)).run P w'.drew = .ok (flat vs).toArray w'.drew → Each (t.rep Q w) vs xs → sCap < xs.length + ys.length →
      ∃ r w2 w3, (execOp ρ o).run P w' = .ok (.value r) w3 ∧ Same w2 w3 ∧ ∃ b', Own t (fun k => Q k ∧ k ≠ b') E w2 r (xs ++ ys) b' ∧ Ext (· = b) w w2 ∧ (b' = b ∨ b' = w.heap.size) ∧ (∀ R : Nat → Prop, R b → (∀ k, Q k → R k) → (Sl t).rep R w2 v xs) := by
    intro base sCap vs hvv hfc hev hg
    have hge := grownCap_ge w' (xs.length + ys.length) sCap E
    generalize hcap : grownCap w' (xs.length + ys.length) sCap E = cap at hge
    have hr := run_append_grow_src (P := P) w' T T' o.type E i z hT hi hz base xs.length sCap (flat vs) hfc u ys.length (flat us) hsrc hg (by simp only [Lim] at hlen; omega) (growslice_fits hg hlim)
    rw [hcap] at hr
    have hcs : (flat vs ++ flat us).toArray ++ Builtin.zeroCells z.cells (cap - (xs.length + ys.length)) = (flat (vs ++ us) ++ (Builtin.zeroCells z.cells (cap - (xs.length + ys.length))).toList).toArray := by
      apply Array.ext'; simp [flat_append]
    rw [hcs] at hr
    let cs := flat (vs ++ us) ++ (Builtin.zeroCells z.cells (cap - (xs.length + ys.length))).toList
    have hext : Ext (fun _ => False) w (w.alloc (.cells cs.toArray E)) := Ext.alloc w _
    have hsz : (w.alloc (.cells cs.toArray E)).heap.size = w.heap.size + 1 := by simp
    refine ⟨.slice (some ⟨w.heap.size, 0, none⟩) (xs.length + ys.length) cap, w.alloc (.cells cs.toArray E), w'.drew.alloc (.cells cs.toArray E), ?_, (hw.trans (same_draw w')).alloc _, w.heap.size, ?_, hext.mono (fun _ _ hf => hf.elim), .inr rfl, fun R hR hQ => (hv0.ext0 hext).rep hR (fun k hk _ => hQ k hk)⟩
    · rw [hw.heap] at hr
      refine run_append_call ho ?_
      rw [hρ _ _ hx, hρ _ _ hy, hvv]
      exact hr
    · refine ⟨by rw [List.length_append]; exact hlen, .inr ⟨cap, vs ++ us, (Builtin.zeroCells z.cells (cap - (xs.length + ys.length))).toList, by rw [List.length_append], by rw [List.length_append]; exact hge, ?_, Blk.alloc _ _ _, ?_⟩⟩
      · exact (hev.append hes).imp (fun u x h => t.ext0 (t.mono h (fun k hk hlt => ⟨hk, Nat.ne_of_lt hlt⟩)) hext)
      · have h1 := hev.append hes
        rw [List.length_append, flat_length (h1.mem (n := t.size) (fun u x h => t.sz h)), h1.length, show (Builtin.zeroCells z.cells (cap - (xs.length + ys.length))).toList.length = (cap - (xs.length + ys.length)) * t.size by rw [Array.length_toList, size_zeroCells, hzs], List.length_append, ← Nat.add_mul]
        congr 1
        omega
  rcases hown with ⟨rfl, rfl⟩ | ⟨cap, us0, sp, rfl, hc0, he0, hB, hn0⟩
  · by_cases h0 : ys = []
    · subst h0
      refine ⟨.slice none 0 0, w, w', run_append_call ho ?_, hw, b, Own.nil, .refl w, .inl rfl, fun R hR hQ => Sl.nil⟩
      rw [hρ _ _ hx, hρ _ _ hy]
      have hus : us = [] := by cases hes; rfl
      subst hus
      exact run_append_nothing (P := P) w' T T' o.type E i hT hi none 0 0 (Nat.le_refl _) u hsrc
    · exact hgrow none 0 [] rfl (by exact run_firstCells_none w'.drew i.size 0 0 0) .nil (by have := List.length_pos_iff.2 h0; simp; omega)
  · by_cases hroom : xs.length + ys.length ≤ cap
    · have hul : (flat us0).length = xs.length * t.size := by rw [flat_length (he0.mem (n := t.size) (fun u x h => t.sz h)), he0.length]
      have hfit : xs.length * t.size + (flat us).length ≤ (flat us0 ++ sp).length := by
        rw [hn0, husl, ← Nat.add_mul]
        exact Nat.mul_le_mul_right _ hroom
      have hB' : Blk w' b E (flat us0 ++ sp) := hB.keep (by rw [hw.heap])
      have h1 : ∀ u ∈ flat us, u.oneCell' = true := each_one hes (fun u x h => t.one h)
      have hr := run_append_room_src (P := P) w' T T' o.type E i hT hi b 0 xs.length cap u ys.length (flat us) hsrc hroom
        (fun j hj => by rw [hB'.cell, hs, Nat.zero_add]; rw [List.getElem?_eq_getElem (by omega)]; rfl) (fun j hj => hB'.thawed _ (by rw [hs]; omega))
      rw [← putCells_setCells, hs, Nat.zero_add] at hr
      refine ⟨.slice (some ⟨b, 0, none⟩) (xs.length + ys.length) cap, putCells w b (xs.length * t.size) (flat us), putCells w' b (xs.length * t.size) (flat us), run_append_call ho ?_, hw.putCells b _ _, b, ?_, putCells_ext _ _ _ _, .inl rfl, ?_⟩
      · rw [hρ _ _ hx, hρ _ _ hy]
        exact hr
      · have hb2 := hB.put (flat us) (xs.length * t.size)
        rw [splice_eq _ _ _ hfit] at hb2
        have e1 : (flat us0 ++ sp).take (xs.length * t.size) ++ flat us ++ (flat us0 ++ sp).drop (xs.length * t.size + (flat us).length) = flat (us0 ++ us) ++ sp.drop (flat us).length := by
          rw [List.take_left' hul, ← List.drop_drop, List.drop_left' hul, flat_append]
        rw [e1] at hb2
        refine ⟨by rw [List.length_append]; exact hlen, .inr ⟨cap, us0 ++ us, sp.drop (flat us).length, by rw [List.length_append], by rw [List.length_append]; exact hroom, ?_, hb2, ?_⟩⟩
        · refine (he0.append hes).imp (fun u x h => ?_)
          have hne := t.mono h (P' := fun k => Q k ∧ k ≠ b) (fun k hk hlt => ⟨hk, hq k hk hlt⟩)
          exact t.ext hne (putCells_ext _ _ _ _) (fun k hk _ => hk.2)
        · have h2 : (flat us0 ++ sp).length = xs.length * t.size + sp.length := by rw [List.length_append, hul]
          rw [List.length_append, List.length_drop, flat_append, List.length_append, hul, ← hn0, h2]
          omega
      · intro R hR hQ
        have hb2 := hB.put (flat us) (xs.length * t.size)
        rw [splice_eq _ _ _ hfit] at hb2
        have e1 : (flat us0 ++ sp).take (xs.length * t.size) ++ flat us ++ (flat us0 ++ sp).drop (xs.length * t.size + (flat us).length) = flat us0 ++ (flat us ++ sp.drop (flat us).length) := by
          rw [List.take_left' hul, ← List.drop_drop, List.drop_left' hul, List.append_assoc]
        rw [e1] at hb2
        refine Sl.mk (us := us0) (he0.imp (fun u x h => ?_)) hb2.cells.left hR hb2.lt hc0 hl rfl
        have hne := t.mono h (P' := fun k => Q k ∧ k ≠ b) (fun k hk hlt => ⟨hk, hq k hk hlt⟩)
        exact t.mono (t.ext hne (putCells_ext _ _ _ _) (fun k hk _ => hk.2)) (fun k hk _ => hQ k hk.1)
    · refine hgrow _ cap us0 rfl ?_ he0 (by omega)
      refine run_firstCells_some (P := P) w'.drew i.size xs.length _ _ _ (flat us0) ?_ (fun j u hj => ?_)
      · rw [flat_length (he0.mem (n := t.size) (fun u x h => t.sz h)), he0.length, hs]
      · rw [add_none]
        have hb' : Blk w' b E (flat us0 ++ sp) := hB.keep (by rw [hw.heap])
        have := hb'.cells.left j u hj
        simpa using this
theorem DoV.appendK {i : TypeInfo} {z : Value} {eb : Nat} {T' : TypeId} (hx : look e x = some v) (hv : Own t Q E w v xs b) (hy : look e y = some u) (hu : (∃ a cap, u = .slice a 0 cap ∧ ys = []) ∨ Holds t Q w u ys)
    (hT : P.underlying T = some (.slice E)) (hT' : P.underlying T' = some (.slice E)) (hi : P.info? E = some i) (hz : i.zero = some z) (hs : i.size = t.size) (hzs : z.cells.size = t.size) (hby : i.bytes = eb) (hlim : (xs.length + ys.length) * eb ≤ 140737488355328) (hlen : xs.length + ys.length < Lim) (hq : ∀ k, Q k → k < w.heap.size → k ≠ b) :
    DoV P e (.call { callee := .builtin .append, args := #[x, y], argTypes := #[T, T'] }) w (fun r w2 => ∃ b', Own t (fun k => Q k ∧ k ≠ b') E w2 r (xs ++ ys) b' ∧ Ext (· = b) w w2 ∧ (b' = b ∨ b' = w.heap.size) ∧ (∀ R : Nat → Prop, R b → (∀ k, Q k → R k) → (Sl t).rep R w2 v xs)) :=
  .appendOfK hx hv hy (fun _ hw => src_holds hu hT' hw) hT hi hz hs hzs hby hlim hlen hq
end
end Go.Proofs.Ytapdacjpmmjlhaa
