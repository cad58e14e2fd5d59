
/-
  A list of writes whose bytes are cloned one by one, in place.
-/
import Derived.Test.YtapdacjpmmjlhaaDiskDef
import Derived.Test.YtapdacjpmmjlhaaCut
set_option linter.unusedVariables false
set_option linter.unusedSimpArgs false
namespace Go.Proofs.Ytapdacjpmmjlhaa
open Go disk
theorem Own.keep {α : Type} {t : Ty α} {Q : Nat → Prop} {E : TypeId} {w w' : World} {v : Value} {xs : List α} {b : Nat} (h : Own t Q E w v xs b) (hb : w'.heap[b]? = w.heap[b]?) (hq : ∀ k, Q k → k < w.heap.size → w'.heap[k]? = w.heap[k]?) : Own t Q E w' v xs b := by
  obtain ⟨hl, h | ⟨cap, us, sp, hv, hc, he, hB, hn⟩⟩ := h
  · exact ⟨hl, .inl h⟩
  · exact ⟨hl, .inr ⟨cap, us, sp, hv, hc, he.imp (fun u x hu => t.keep hu hq), hB.keep hb, hn⟩⟩
theorem size_le_of {w w' : World} {b : Nat} (hb : w'.heap[b]? = w.heap[b]?) (h : b < w.heap.size) : b < w'.heap.size := by
  rcases Nat.lt_or_ge b w'.heap.size with h' | h'
  · exact h'
  · rw [Array.getElem?_eq_none h'] at hb
    simp [h] at hb
/-- bytes of a call's own, nil or in a block that P allows -/
def tOwnB : Ty Bs where
  size := 1
  rep P w v l := OwnO tByte (fun _ => False) 5 w v l P
  sz := by rintro P w v l h; obtain ⟨a, cap, rfl, _⟩ := h.val; rfl
  one := by rintro P w v l h u hu; obtain ⟨a, cap, rfl, _⟩ := h.val; simp [Value.cells] at hu; subst hu; rfl
  keep := by
    rintro P w w' v l h hk
    rcases h with h | ⟨b, h1, h2, h3⟩
    · exact .inl h
    · exact .inr ⟨b, h1, size_le_of (hk b h1 h2) h2, h3.keep (hk b h1 h2) (fun _ h _ => h.elim)⟩
  mono := fun h hk => OwnO.mono h (fun _ h _ => h) hk
theorem tOwnB.weak {P : Nat → Prop} {w : World} {v : Value} {l : Bs} (h : tOwnB.rep P w v l) : tBytes.rep P w v l := OwnO.rep h (fun _ h _ => h) (fun _ h _ => h.elim)
namespace disk
def tPutO : Ty Put := (tInt.pair tOwnB).map (fun p => (p.sector, p.data))
theorem tOwnB_one {P : Nat → Prop} {w : World} {u : Value} {l : Bs} (h : tOwnB.rep P w u l) : u.cells = #[u] := by obtain ⟨a, cap, rfl, _⟩ := OwnO.val h; rfl
theorem tPutO.val {P : Nat → Prop} {w : World} {v : Value} {p : Put} (h : tPutO.rep P w v p) : ∃ u, v = .agg #[i64 p.sector, u] ∧ tOwnB.rep P w u p.data ∧ -9223372036854775808 ≤ p.sector ∧ p.sector ≤ 9223372036854775807 := by
  obtain ⟨u, u', rfl, ⟨rfl, h1⟩, h2⟩ := h
  refine ⟨u', ?_, h2, h1⟩
  rw [tOwnB_one h2]
  rfl
theorem tPutO.mk {P : Nat → Prop} {w : World} {p : Put} {u : Value} (h : tOwnB.rep P w u p.data) (h1 : -9223372036854775808 ≤ p.sector ∧ p.sector ≤ 9223372036854775807) : tPutO.rep P w (.agg #[i64 p.sector, u]) p := by
  refine ⟨i64 p.sector, u, ?_, ⟨rfl, h1⟩, h⟩
  rw [tOwnB_one h]
  rfl
theorem tPutO.weak {P : Nat → Prop} {w : World} {v : Value} {p : Put} (h : tPutO.rep P w v p) : tPut.rep P w v p := by
  obtain ⟨u, u', rfl, h1, h2⟩ := h
  exact ⟨u, u', rfl, h1, tOwnB.weak h2⟩
/-- a disk of a call's own, its memory where P allows -/
def OwnD (w : World) (v : Value) (d : Disk) (P : Nat → Prop) : Prop :=
  ∃ u u' bd bw Q, v = .agg #[i64 d.count, u, u'] ∧ (-9223372036854775808 ≤ d.count ∧ d.count ≤ 9223372036854775807) ∧ Own tByte (fun _ => False) 5 w u d.data bd ∧ Own tPutO Q 62 w u' d.waits bw ∧ (bd < w.heap.size ∧ bw < w.heap.size ∧ bd ≠ bw ∧ P bd ∧ P bw) ∧ ∀ k, Q k → k < w.heap.size → P k ∧ k ≠ bd ∧ k ≠ bw
end disk
theorem Sl.imp {α : Type} {t t' : Ty α} {P : Nat → Prop} {w : World} {v : Value} {xs : List α} (h : (Sl t).rep P w v xs) (hr : ∀ u x, t.rep P w u x → t'.rep P w u x) : (Sl t').rep P w v xs := by
  obtain ⟨hl, a, cap, rfl, hc, h | ⟨b, o, us, rfl, hb, hlt, he, hcs⟩⟩ := h
  · exact ⟨hl, a, cap, rfl, hc, .inl h⟩
  · exact ⟨hl, _, cap, rfl, hc, .inr ⟨b, o, us, rfl, hb, hlt, he.imp hr, hcs⟩⟩
namespace disk
theorem OwnD.rep {w : World} {v : Value} {d : Disk} {P : Nat → Prop} (h : OwnD w v d P) : tDisk.rep P w v d := by
  obtain ⟨u, u', bd, bw, Q, rfl, hr, h1, h2, ⟨l1, l2, ne, p1, p2⟩, hq⟩ := h
  exact tDisk.mk (h1.rep p1 (fun _ h _ => h.elim)) (Sl.imp (h2.rep p2 (fun k h hk => (hq k h hk).1)) (fun u x h => tPutO.weak h)) hr
theorem OwnD.ext {S : Nat → Prop} {w w' : World} {v : Value} {d : Disk} {P : Nat → Prop} (h : OwnD w v d P) (hx : Ext S w w') (hs : ∀ k, P k → k < w.heap.size → ¬ S k) : OwnD w' v d P := by
  obtain ⟨u, u', bd, bw, Q, rfl, hr, h1, h2, ⟨l1, l2, ne, p1, p2⟩, hq⟩ := h
  refine ⟨u, u', bd, bw, fun k => Q k ∧ k < w.heap.size, rfl, hr, h1.ext hx (hs bd p1 l1) (fun _ h _ => h.elim), (h2.mono (fun k a b => (⟨a, b⟩ : Q k ∧ k < w.heap.size))).ext hx (hs bw p2 l2) (fun k a _ => hs k (hq k a.1 a.2).1 a.2), ⟨?_, ?_, ne, p1, p2⟩, fun k a _ => hq k a.1 a.2⟩
  · exact Nat.lt_of_lt_of_le l1 hx.size
  · exact Nat.lt_of_lt_of_le l2 hx.size
theorem OwnD.ext0 {w w' : World} {v : Value} {d : Disk} {P : Nat → Prop} (h : OwnD w v d P) (hx : Ext (fun _ => False) w w') : OwnD w' v d P := h.ext hx (fun _ _ _ x => x)
theorem OwnD.mono {w : World} {v : Value} {d : Disk} {P P' : Nat → Prop} (h : OwnD w v d P) (hp : ∀ k, P k → k < w.heap.size → P' k) : OwnD w v d P' := by
  obtain ⟨u, u', bd, bw, Q, rfl, hr, h1, h2, ⟨l1, l2, ne, p1, p2⟩, hq⟩ := h
  exact ⟨u, u', bd, bw, Q, rfl, hr, h1, h2, ⟨l1, l2, ne, hp _ p1 l1, hp _ p2 l2⟩, fun k a b => ⟨hp k (hq k a b).1 b, (hq k a b).2⟩⟩
end disk
theorem Own.blk {Q : Nat → Prop} {E : TypeId} {w : World} {v : Value} {l : Bs} {b : Nat} (h : Own tByte Q E w v l b) (hne : l ≠ []) : ∃ cap sp, v = .slice (some ⟨b, 0, none⟩) l.length cap ∧ l.length ≤ cap ∧ Blk w b E (l.map u8 ++ sp) ∧ l.length + sp.length = cap := by
  obtain ⟨hl, ⟨rfl, rfl⟩ | ⟨cap, us, sp, rfl, hc, he, hB, hn⟩⟩ := h
  · exact absurd rfl hne
  · have hu : us = l.map u8 := Each.eq_map u8 he
    subst hu
    rw [flat_u8] at hB hn
    exact ⟨cap, sp, rfl, hc, hB, by rw [List.length_append, List.length_map] at hn; have : tByte.size = 1 := rfl; rw [this] at hn; omega⟩
theorem Own.ofBlk {Q : Nat → Prop} {E : TypeId} {w : World} {l : Bs} {b cap n : Nat} {sp : List Value} (hB : Blk w b E (l.map u8 ++ sp)) (hl : l.length < Lim) (hn : n = l.length) (hc : l.length + sp.length = cap) : Own tByte Q E w (.slice (some ⟨b, 0, none⟩) n cap) l b := by
  subst hn
  refine ⟨hl, .inr ⟨cap, l.map u8, sp, rfl, by omega, each_u8 l, by rw [flat_u8]; exact hB, ?_⟩⟩
  rw [flat_u8, List.length_append, List.length_map]
  have : tByte.size = 1 := rfl
  rw [this]
  omega
/-- writes in block b: the bytes of the first i lie where Q1 allows, those of the others where Q0 does -/
def HalfAt (w : World) (b cap : Nat) (E : TypeId) (xs : List disk.Put) (Q0 Q1 : Nat → Prop) (i : Nat) : Prop :=
  ∃ us sp, Each (tPutO.rep Q1 w) (us.take i) (xs.take i) ∧ Each (tPut.rep Q0 w) (us.drop i) (xs.drop i) ∧ us.length = xs.length ∧ Blk w b E (flat us ++ sp) ∧ (flat us ++ sp).length = cap * 2
section
variable {w w1 : World} {b cap : Nat} {E : TypeId} {xs : List disk.Put} {Q0 Q1 : Nat → Prop} {i : Nat}
theorem HalfAt.sizes {us : List Value} (h1 : Each (tPutO.rep Q1 w) (us.take i) (xs.take i)) (h2 : Each (tPut.rep Q0 w) (us.drop i) (xs.drop i)) : ∀ x ∈ us, x.cells.size = 2 := by
  intro x hx
  rw [← List.take_append_drop i us, List.mem_append] at hx
  rcases hx with hx | hx
  · exact h1.mem (n := 2) (fun u y h => tPutO.sz h) x hx
  · exact h2.mem (n := 2) (fun u y h => tPut.sz h) x hx
theorem HalfAt.elem (h : HalfAt w b cap E xs Q0 Q1 i) (hi : i < xs.length) : ∃ ud, tBytes.rep Q0 w ud xs[i].data ∧ w.cell? ⟨b, i * 2 + 1, none⟩ = some ud := by
  obtain ⟨us, sp, h1, h2, hl, hB, hn⟩ := h
  have hsz := HalfAt.sizes h1 h2
  have hget : (xs.drop i)[0]? = some xs[i] := by rw [List.getElem?_drop]; simp [hi]
  obtain ⟨u, hu, hr⟩ := h2.get hget
  obtain ⟨ud, rfl, hud, _⟩ := tPut.val hr
  refine ⟨ud, hud, ?_⟩
  have hlt : i < us.length := by omega
  have hui : us[i] = .agg #[i64 xs[i].sector, ud] := by
    rw [List.getElem?_drop] at hu
    simp [hlt] at hu
    exact hu
  have e : (flat us).drop (i * 2) = i64 xs[i].sector :: ud :: flat (us.drop (i + 1)) := by
    rw [← flat_drop i hsz, List.drop_eq_getElem_cons hlt, flat_cons, hui]
    rfl
  rw [hB.cell]
  have hfl := flat_length hsz
  rw [List.getElem?_append_left (by rw [hfl]; omega)]
  have : ((flat us).drop (i * 2))[1]? = some ud := by rw [e]; rfl
  rwa [List.getElem?_drop] at this
theorem HalfAt.put (h : HalfAt w b cap E xs Q0 Q1 i) (hi : i < xs.length) (hx : Ext (fun _ => False) w w1) {r : Value} (hr : tOwnB.rep Q1 w1 r xs[i].data) (hq0 : ∀ k, Q0 k → k ≠ b) (hq1 : ∀ k, Q1 k → k ≠ b) :
    ∃ cs, Blk w1 b E cs ∧ i * 2 + 1 < cs.length ∧ ∀ w2, Go.Proofs.Ytapdacjpmmjlhaa.Put w1 w2 b E (cs.set (i * 2 + 1) r) → HalfAt w2 b cap E xs Q0 Q1 (i + 1) := by
  obtain ⟨us, sp, h1, h2, hl, hB, hn⟩ := h
  have hsz := HalfAt.sizes h1 h2
  have hlt : i < us.length := by omega
  have hfl := flat_length hsz
  have hget : (xs.drop i)[0]? = some xs[i] := by rw [List.getElem?_drop]; simp [hi]
  obtain ⟨u, hu, hre⟩ := h2.get hget
  obtain ⟨ud, rfl, hud, hs⟩ := tPut.val hre
  have hui : us[i]? = some (.agg #[i64 xs[i].sector, ud]) := by
    rw [List.getElem?_drop] at hu
    simpa using hu
  refine ⟨flat us ++ sp, hB.ext hx (fun x => x), by rw [List.length_append, hfl]; omega, fun w2 P => ?_⟩
  have e : (flat us ++ sp).set (i * 2 + 1) r = flat (us.set i (.agg #[i64 xs[i].sector, r])) ++ sp := by
    rw [List.set_append_left _ _ (by rw [hfl]; omega), flat_set (n := 2) i 1 r (.agg #[i64 xs[i].sector, r]) hsz (by omega)]
    intro x hx'
    rw [hui] at hx'
    cases hx'
    rfl
  have hblk := P.blk
  rw [e] at hblk
  refine ⟨us.set i (.agg #[i64 xs[i].sector, r]), sp, ?_, ?_, by simpa using hl, hblk, ?_⟩
  · have e1 : (us.set i (.agg #[i64 xs[i].sector, r])).take (i + 1) = us.take i ++ [.agg #[i64 xs[i].sector, r]] := by
      rw [List.take_succ_eq_append_getElem (by simpa using hlt), List.take_set_of_le (Nat.le_refl _)]
      simp
    rw [e1, List.take_succ_eq_append_getElem hi]
    refine Each.append (h1.imp (fun u x hh => tPutO.ext (tPutO.ext0 hh hx) P.ext (fun k hk _ => hq1 k hk))) (.cons ?_ .nil)
    exact tPutO.mk (tOwnB.ext hr P.ext (fun k hk _ => hq1 k hk)) hs
  · rw [List.drop_set_of_lt (by omega)]
    have h3 := h2.drop 1
    rw [List.drop_drop, List.drop_drop] at h3
    exact h3.imp (fun u x hh => tPut.ext (tPut.ext0 hh hx) P.ext (fun k hk _ => hq0 k hk))
  · rw [← e, List.length_set, hn]
theorem HalfAt.first {us sp : List Value} (h : Each (tPut.rep Q0 w) us xs) (hB : Blk w b E (flat us ++ sp)) (hn : (flat us ++ sp).length = cap * 2) : HalfAt w b cap E xs Q0 Q1 0 :=
  ⟨us, sp, .nil, h, h.length, hB, hn⟩
theorem HalfAt.last (h : HalfAt w b cap E xs Q0 Q1 xs.length) (hl : xs.length < Lim) (hc : xs.length ≤ cap) : Own tPutO Q1 E w (.slice (some ⟨b, 0, none⟩) xs.length cap) xs b := by
  obtain ⟨us, sp, h1, h2, hlen, hB, hn⟩ := h
  rw [List.take_of_length_le (by omega), List.take_length] at h1
  exact ⟨hl, .inr ⟨cap, us, sp, rfl, hc, h1, hB, hn⟩⟩
theorem HalfAt.ext0 (h : HalfAt w b cap E xs Q0 Q1 i) (hx : Ext (fun _ => False) w w1) : HalfAt w1 b cap E xs Q0 Q1 i := by
  obtain ⟨us, sp, h1, h2, hl, hB, hn⟩ := h
  exact ⟨us, sp, h1.imp (fun u x hh => tPutO.ext0 hh hx), h2.imp (fun u x hh => tPut.ext0 hh hx), hl, hB.ext hx (fun x => x), hn⟩
end
/-- the same, nil or in a block that B allows -/
def HalfO (w : World) (v : Value) (E : TypeId) (xs : List disk.Put) (Q0 Q1 B : Nat → Prop) (i : Nat) : Prop :=
  (xs = [] ∧ v = .slice none 0 0) ∨ ∃ b cap, v = .slice (some ⟨b, 0, none⟩) xs.length cap ∧ xs.length ≤ cap ∧ B b ∧ xs.length < Lim ∧ HalfAt w b cap E xs Q0 Q1 i
theorem HalfO.first {w : World} {v : Value} {E : TypeId} {xs : List disk.Put} {Q0 Q1 B : Nat → Prop} (h : OwnO tPut Q0 E w v xs B) : HalfO w v E xs Q0 Q1 B 0 := by
  rcases h with h | ⟨b, h1, h2, hl, ⟨rfl, rfl⟩ | ⟨cap, us, sp, rfl, hc, he, hB, hn⟩⟩
  · exact .inl h
  · exact .inl ⟨rfl, rfl⟩
  · exact .inr ⟨b, cap, rfl, hc, h1, hl, HalfAt.first he hB hn⟩
theorem HalfO.last {w : World} {v : Value} {E : TypeId} {xs : List disk.Put} {Q0 Q1 B : Nat → Prop} (h : HalfO w v E xs Q0 Q1 B xs.length) : OwnO tPutO Q1 E w v xs B := by
  rcases h with h | ⟨b, cap, rfl, hc, hb, hl, h⟩
  · exact .inl h
  · have h' := h.last hl hc
    obtain ⟨us, sp, _, _, _, hB, _⟩ := h
    exact .inr ⟨b, hb, hB.lt, h'⟩
theorem HalfO.ext0 {w w1 : World} {v : Value} {E : TypeId} {xs : List disk.Put} {Q0 Q1 B : Nat → Prop} {i : Nat} (h : HalfO w v E xs Q0 Q1 B i) (hx : Ext (fun _ => False) w w1) : HalfO w1 v E xs Q0 Q1 B i := by
  rcases h with h | ⟨b, cap, rfl, hc, hb, hl, h⟩
  · exact .inl h
  · exact .inr ⟨b, cap, rfl, hc, hb, hl, h.ext0 hx⟩
theorem OwnB.of {w : World} {v : Value} {l : Bs} {b : Nat} {P : Nat → Prop} (h : Own tByte (fun _ => False) 5 w v l b) (hb : P b) : tOwnB.rep P w v l := OwnO.of h hb
end Go.Proofs.Ytapdacjpmmjlhaa
