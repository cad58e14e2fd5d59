import Derived.Test.YthliepcjfnjnoaaGreatDoorB04
import Derived.Test.YthliepcjfnjnoaaGreatDoorB07
import Derived.Test.YthliepcjfnjnoaaGreatDoorProg
set_option linter.unusedVariables false
set_option linter.unusedSimpArgs false
set_option maxRecDepth 20000
namespace Go.Proofs.YthliepcjfnjnoaaGreatDoor
open Go
theorem Sl.isNone {α : Type} {t : Ty α} {P : Nat → Prop} {w : World} {a : Option Addr} {n cap : Nat} {xs : List α} (h : (Sl t).rep P w (.slice a n cap) xs) (ha : a.isNone = true) : xs = [] := by
  obtain ⟨_, a', cap', e, _, ⟨rfl, _⟩ | ⟨b, o, us, rfl, _⟩⟩ := h
  · rfl
  · cases e; cases ha
namespace disk
structure Put where
  sector : Int
  data : Bs
deriving DecidableEq
structure Disk where
  count : Int
  data : Bs
  waits : List Put
deriving DecidableEq
structure Act where
  flush : Bool
  put : Put
deriving DecidableEq
def tPut : Ty Put := (tInt.pair tBytes).map (fun p => (p.sector, p.data))
def tDisk : Ty Disk := (tInt.pair (tBytes.pair (Sl tPut))).map (fun d => (d.count, d.data, d.waits))
def tAct : Ty Act := (tBool.pair tPut).map (fun a => (a.flush, a.put))
section
variable {P : Nat → Prop} {w : World} {v : Value}
theorem tBytes_one {u : Value} {l : Bs} (h : tBytes.rep P w u l) : u.cells = #[u] := by obtain ⟨a, cap, rfl, _⟩ := Sl.val h; rfl
theorem Sl_one {α : Type} {t : Ty α} {u : Value} {l : List α} (h : (Sl t).rep P w u l) : u.cells = #[u] := by obtain ⟨a, cap, rfl, _⟩ := Sl.val h; rfl
theorem tPut.val {p : Put} (h : tPut.rep P w v p) : ∃ u, v = .agg #[i64 p.sector, u] ∧ tBytes.rep P w u p.data ∧ -9223372036854775808 ≤ p.sector ∧ p.sector ≤ 9223372036854775807 := by
  obtain ⟨u, u', rfl, ⟨rfl, h1⟩, h2⟩ := h
  refine ⟨u', ?_, h2, h1⟩
  rw [tBytes_one h2]
  rfl
theorem tPut.mk {p : Put} {u : Value} (h : tBytes.rep P w u p.data) (h1 : -9223372036854775808 ≤ p.sector ∧ p.sector ≤ 9223372036854775807) : tPut.rep P w (.agg #[i64 p.sector, u]) p := by
  refine ⟨i64 p.sector, u, ?_, ⟨rfl, h1⟩, h⟩
  rw [tBytes_one h]
  rfl
theorem tDisk.val {d : Disk} (h : tDisk.rep P w v d) : ∃ u u', v = .agg #[i64 d.count, u, u'] ∧ tBytes.rep P w u d.data ∧ (Sl tPut).rep P w u' d.waits ∧ -9223372036854775808 ≤ d.count ∧ d.count ≤ 9223372036854775807 := by
  obtain ⟨c, _, rfl, ⟨rfl, h1⟩, u, u', rfl, h2, h3⟩ := h
  refine ⟨u, u', ?_, h2, h3, h1⟩
  rw [tBytes_one h2, Sl_one h3]
  rfl
theorem tDisk.mk {d : Disk} {u u' : Value} (h : tBytes.rep P w u d.data) (h' : (Sl tPut).rep P w u' d.waits) (h1 : -9223372036854775808 ≤ d.count ∧ d.count ≤ 9223372036854775807) : tDisk.rep P w (.agg #[i64 d.count, u, u']) d := by
  refine ⟨i64 d.count, .agg (u.cells ++ u'.cells), ?_, ⟨rfl, h1⟩, u, u', rfl, h, h'⟩
  rw [tBytes_one h, Sl_one h']
  rfl
theorem tAct.val {a : Act} (h : tAct.rep P w v a) : ∃ u, v = .agg #[.bool a.flush, i64 a.put.sector, u] ∧ tBytes.rep P w u a.put.data ∧ -9223372036854775808 ≤ a.put.sector ∧ a.put.sector ≤ 9223372036854775807 := by
  obtain ⟨u, u', rfl, rfl, h2⟩ := h
  obtain ⟨x, rfl, h3, h4⟩ := tPut.val h2
  exact ⟨x, rfl, h3, h4⟩
end
def okPut (count : Int) (p : Put) : Bool := decide (0 ≤ p.sector ∧ p.sector < count ∧ p.data.length = 128)
def checkF (d : Disk) : Int :=
  if d.count < 1 ∨ 4096 < d.count ∨ ¬ (d.data.length : Int) = d.count * 128 ∨ 4096 < d.waits.length then 20 else if d.waits.all (okPut d.count) then 0 else 20
end disk
end Go.Proofs.YthliepcjfnjnoaaGreatDoor
namespace Go.Proofs.YthliepcjfnjnoaaGreatDoor
open Go disk
theorem Own.keep {α : Type} {t : Ty α} {Q : Nat → Prop} {E : TypeId} {w w' : World} {v : Value} {xs : List α} {b : Nat} (h : Own t Q E w v xs b) (hb : w'.heap[b]? = w.heap[b]?) (hq : ∀ k, Q k → k < w.heap.size → w'.heap[k]? = w.heap[k]?) : Own t Q E w' v xs b := by
  obtain ⟨hl, h | ⟨cap, us, sp, hv, hc, he, hB, hn⟩⟩ := h
  · exact ⟨hl, .inl h⟩
  · exact ⟨hl, .inr ⟨cap, us, sp, hv, hc, he.imp (fun u x hu => t.keep hu hq), hB.keep hb, hn⟩⟩
theorem size_le_of {w w' : World} {b : Nat} (hb : w'.heap[b]? = w.heap[b]?) (h : b < w.heap.size) : b < w'.heap.size := by
  rcases Nat.lt_or_ge b w'.heap.size with h' | h'
  · exact h'
  · rw [Array.getElem?_eq_none h'] at hb
    simp [h] at hb
def tOwnB : Ty Bs where
  size := 1
  rep P w v l := OwnO tByte (fun _ => False) 5 w v l P
  sz := by rintro P w v l h; obtain ⟨a, cap, rfl, _⟩ := h.val; rfl
  one := by rintro P w v l h u hu; obtain ⟨a, cap, rfl, _⟩ := h.val; simp [Value.cells] at hu; subst hu; rfl
  keep := by
    rintro P w w' v l h hk
    rcases h with h | ⟨b, h1, h2, h3⟩
    · exact .inl h
    · exact .inr ⟨b, h1, size_le_of (hk b h1 h2) h2, h3.keep (hk b h1 h2) (fun _ h _ => h.elim)⟩
  mono := fun h hk => OwnO.mono h (fun _ h _ => h) hk
theorem tOwnB.weak {P : Nat → Prop} {w : World} {v : Value} {l : Bs} (h : tOwnB.rep P w v l) : tBytes.rep P w v l := OwnO.rep h (fun _ h _ => h) (fun _ h _ => h.elim)
namespace disk
def tPutO : Ty Put := (tInt.pair tOwnB).map (fun p => (p.sector, p.data))
theorem tOwnB_one {P : Nat → Prop} {w : World} {u : Value} {l : Bs} (h : tOwnB.rep P w u l) : u.cells = #[u] := by obtain ⟨a, cap, rfl, _⟩ := OwnO.val h; rfl
theorem tPutO.val {P : Nat → Prop} {w : World} {v : Value} {p : Put} (h : tPutO.rep P w v p) : ∃ u, v = .agg #[i64 p.sector, u] ∧ tOwnB.rep P w u p.data ∧ -9223372036854775808 ≤ p.sector ∧ p.sector ≤ 9223372036854775807 := by
  obtain ⟨u, u', rfl, ⟨rfl, h1⟩, h2⟩ := h
  refine ⟨u', ?_, h2, h1⟩
  rw [tOwnB_one h2]
  rfl
theorem tPutO.mk {P : Nat → Prop} {w : World} {p : Put} {u : Value} (h : tOwnB.rep P w u p.data) (h1 : -9223372036854775808 ≤ p.sector ∧ p.sector ≤ 9223372036854775807) : tPutO.rep P w (.agg #[i64 p.sector, u]) p := by
  refine ⟨i64 p.sector, u, ?_, ⟨rfl, h1⟩, h⟩
  rw [tOwnB_one h]
  rfl
theorem tPutO.weak {P : Nat → Prop} {w : World} {v : Value} {p : Put} (h : tPutO.rep P w v p) : tPut.rep P w v p := by
  obtain ⟨u, u', rfl, h1, h2⟩ := h
  exact ⟨u, u', rfl, h1, tOwnB.weak h2⟩
def OwnD (w : World) (v : Value) (d : Disk) (P : Nat → Prop) : Prop :=
  ∃ u u' bd bw Q, v = .agg #[i64 d.count, u, u'] ∧ (-9223372036854775808 ≤ d.count ∧ d.count ≤ 9223372036854775807) ∧ Own tByte (fun _ => False) 5 w u d.data bd ∧ Own tPutO Q 94 w u' d.waits bw ∧ (bd < w.heap.size ∧ bw < w.heap.size ∧ bd ≠ bw ∧ P bd ∧ P bw) ∧ ∀ k, Q k → k < w.heap.size → P k ∧ k ≠ bd ∧ k ≠ bw
end disk
theorem Sl.imp {α : Type} {t t' : Ty α} {P : Nat → Prop} {w : World} {v : Value} {xs : List α} (h : (Sl t).rep P w v xs) (hr : ∀ u x, t.rep P w u x → t'.rep P w u x) : (Sl t').rep P w v xs := by
  obtain ⟨hl, a, cap, rfl, hc, h | ⟨b, o, us, rfl, hb, hlt, he, hcs⟩⟩ := h
  · exact ⟨hl, a, cap, rfl, hc, .inl h⟩
  · exact ⟨hl, _, cap, rfl, hc, .inr ⟨b, o, us, rfl, hb, hlt, he.imp hr, hcs⟩⟩
namespace disk
theorem OwnD.rep {w : World} {v : Value} {d : Disk} {P : Nat → Prop} (h : OwnD w v d P) : tDisk.rep P w v d := by
  obtain ⟨u, u', bd, bw, Q, rfl, hr, h1, h2, ⟨l1, l2, ne, p1, p2⟩, hq⟩ := h
  exact tDisk.mk (h1.rep p1 (fun _ h _ => h.elim)) (Sl.imp (h2.rep p2 (fun k h hk => (hq k h hk).1)) (fun u x h => tPutO.weak h)) hr
theorem OwnD.ext {S : Nat → Prop} {w w' : World} {v : Value} {d : Disk} {P : Nat → Prop} (h : OwnD w v d P) (hx : Ext S w w') (hs : ∀ k, P k → k < w.heap.size → ¬ S k) : OwnD w' v d P := by
  obtain ⟨u, u', bd, bw, Q, rfl, hr, h1, h2, ⟨l1, l2, ne, p1, p2⟩, hq⟩ := h
  refine ⟨u, u', bd, bw, fun k => Q k ∧ k < w.heap.size, rfl, hr, h1.ext hx (hs bd p1 l1) (fun _ h _ => h.elim), (h2.mono (fun k a b => (⟨a, b⟩ : Q k ∧ k < w.heap.size))).ext hx (hs bw p2 l2) (fun k a _ => hs k (hq k a.1 a.2).1 a.2), ⟨?_, ?_, ne, p1, p2⟩, fun k a _ => hq k a.1 a.2⟩
  · exact Nat.lt_of_lt_of_le l1 hx.size
  · exact Nat.lt_of_lt_of_le l2 hx.size
theorem OwnD.ext0 {w w' : World} {v : Value} {d : Disk} {P : Nat → Prop} (h : OwnD w v d P) (hx : Ext (fun _ => False) w w') : OwnD w' v d P := h.ext hx (fun _ _ _ x => x)
theorem OwnD.mono {w : World} {v : Value} {d : Disk} {P P' : Nat → Prop} (h : OwnD w v d P) (hp : ∀ k, P k → k < w.heap.size → P' k) : OwnD w v d P' := by
  obtain ⟨u, u', bd, bw, Q, rfl, hr, h1, h2, ⟨l1, l2, ne, p1, p2⟩, hq⟩ := h
  exact ⟨u, u', bd, bw, Q, rfl, hr, h1, h2, ⟨l1, l2, ne, hp _ p1 l1, hp _ p2 l2⟩, fun k a b => ⟨hp k (hq k a b).1 b, (hq k a b).2⟩⟩
end disk
theorem Own.blk {Q : Nat → Prop} {E : TypeId} {w : World} {v : Value} {l : Bs} {b : Nat} (h : Own tByte Q E w v l b) (hne : l ≠ []) : ∃ cap sp, v = .slice (some ⟨b, 0, none⟩) l.length cap ∧ l.length ≤ cap ∧ Blk w b E (l.map u8 ++ sp) ∧ l.length + sp.length = cap := by
  obtain ⟨hl, ⟨rfl, rfl⟩ | ⟨cap, us, sp, rfl, hc, he, hB, hn⟩⟩ := h
  · exact absurd rfl hne
  · have hu : us = l.map u8 := Each.eq_map u8 he
    subst hu
    rw [flat_u8] at hB hn
    exact ⟨cap, sp, rfl, hc, hB, by rw [List.length_append, List.length_map] at hn; have : tByte.size = 1 := rfl; rw [this] at hn; omega⟩
theorem Own.ofBlk {Q : Nat → Prop} {E : TypeId} {w : World} {l : Bs} {b cap n : Nat} {sp : List Value} (hB : Blk w b E (l.map u8 ++ sp)) (hl : l.length < Lim) (hn : n = l.length) (hc : l.length + sp.length = cap) : Own tByte Q E w (.slice (some ⟨b, 0, none⟩) n cap) l b := by
  subst hn
  refine ⟨hl, .inr ⟨cap, l.map u8, sp, rfl, by omega, each_u8 l, by rw [flat_u8]; exact hB, ?_⟩⟩
  rw [flat_u8, List.length_append, List.length_map]
  have : tByte.size = 1 := rfl
  rw [this]
  omega
def HalfAt (w : World) (b cap : Nat) (E : TypeId) (xs : List disk.Put) (Q0 Q1 : Nat → Prop) (i : Nat) : Prop :=
  ∃ us sp, Each (tPutO.rep Q1 w) (us.take i) (xs.take i) ∧ Each (tPut.rep Q0 w) (us.drop i) (xs.drop i) ∧ us.length = xs.length ∧ Blk w b E (flat us ++ sp) ∧ (flat us ++ sp).length = cap * 2
section
variable {w w1 : World} {b cap : Nat} {E : TypeId} {xs : List disk.Put} {Q0 Q1 : Nat → Prop} {i : Nat}
theorem HalfAt.sizes {us : List Value} (h1 : Each (tPutO.rep Q1 w) (us.take i) (xs.take i)) (h2 : Each (tPut.rep Q0 w) (us.drop i) (xs.drop i)) : ∀ x ∈ us, x.cells.size = 2 := by
  intro x hx
  rw [← List.take_append_drop i us, List.mem_append] at hx
  rcases hx with hx | hx
  · exact h1.mem (n := 2) (fun u y h => tPutO.sz h) x hx
  · exact h2.mem (n := 2) (fun u y h => tPut.sz h) x hx
theorem HalfAt.elem (h : HalfAt w b cap E xs Q0 Q1 i) (hi : i < xs.length) : ∃ ud, tBytes.rep Q0 w ud xs[i].data ∧ w.cell? ⟨b, i * 2 + 1, none⟩ = some ud := by
  obtain ⟨us, sp, h1, h2, hl, hB, hn⟩ := h
  have hsz := HalfAt.sizes h1 h2
  have hget : (xs.drop i)[0]? = some xs[i] := by rw [List.getElem?_drop]; simp [hi]
  obtain ⟨u, hu, hr⟩ := h2.get hget
  obtain ⟨ud, rfl, hud, _⟩ := tPut.val hr
  refine ⟨ud, hud, ?_⟩
  have hlt : i < us.length := by omega
  have hui : us[i] = .agg #[i64 xs[i].sector, ud] := by
    rw [List.getElem?_drop] at hu
    simp [hlt] at hu
    exact hu
  have e : (flat us).drop (i * 2) = i64 xs[i].sector :: ud :: flat (us.drop (i + 1)) := by
    rw [← flat_drop i hsz, List.drop_eq_getElem_cons hlt, flat_cons, hui]
    rfl
  rw [hB.cell]
  have hfl := flat_length hsz
  rw [List.getElem?_append_left (by rw [hfl]; omega)]
  have : ((flat us).drop (i * 2))[1]? = some ud := by rw [e]; rfl
  rwa [List.getElem?_drop] at this
theorem HalfAt.put (h : HalfAt w b cap E xs Q0 Q1 i) (hi : i < xs.length) (hx : Ext (fun _ => False) w w1) {r : Value} (hr : tOwnB.rep Q1 w1 r xs[i].data) (hq0 : ∀ k, Q0 k → k ≠ b) (hq1 : ∀ k, Q1 k → k ≠ b) :
    ∃ cs, Blk w1 b E cs ∧ i * 2 + 1 < cs.length ∧ ∀ w2, Go.Proofs.YthliepcjfnjnoaaGreatDoor.Put w1 w2 b E (cs.set (i * 2 + 1) r) → HalfAt w2 b cap E xs Q0 Q1 (i + 1) := by
  obtain ⟨us, sp, h1, h2, hl, hB, hn⟩ := h
  have hsz := HalfAt.sizes h1 h2
  have hlt : i < us.length := by omega
  have hfl := flat_length hsz
  have hget : (xs.drop i)[0]? = some xs[i] := by rw [List.getElem?_drop]; simp [hi]
  obtain ⟨u, hu, hre⟩ := h2.get hget
  obtain ⟨ud, rfl, hud, hs⟩ := tPut.val hre
  have hui : us[i]? = some (.agg #[i64 xs[i].sector, ud]) := by
    rw [List.getElem?_drop] at hu
    simpa using hu
  refine ⟨flat us ++ sp, hB.ext hx (fun x => x), by rw [List.length_append, hfl]; omega, fun w2 P => ?_⟩
  have e : (flat us ++ sp).set (i * 2 + 1) r = flat (us.set i (.agg #[i64 xs[i].sector, r])) ++ sp := by
    rw [List.set_append_left _ _ (by rw [hfl]; omega), flat_set (n := 2) i 1 r (.agg #[i64 xs[i].sector, r]) hsz (by omega)]
    intro x hx'
    rw [hui] at hx'
    cases hx'
    rfl
  have hblk := P.blk
  rw [e] at hblk
  refine ⟨us.set i (.agg #[i64 xs[i].sector, r]), sp, ?_, ?_, by simpa using hl, hblk, ?_⟩
  · have e1 : (us.set i (.agg #[i64 xs[i].sector, r])).take (i + 1) = us.take i ++ [.agg #[i64 xs[i].sector, r]] := by
      rw [List.take_succ_eq_append_getElem (by simpa using hlt), List.take_set_of_le (Nat.le_refl _)]
      simp
    rw [e1, List.take_succ_eq_append_getElem hi]
    refine Each.append (h1.imp (fun u x hh => tPutO.ext (tPutO.ext0 hh hx) P.ext (fun k hk _ => hq1 k hk))) (.cons ?_ .nil)
    exact tPutO.mk (tOwnB.ext hr P.ext (fun k hk _ => hq1 k hk)) hs
  · rw [List.drop_set_of_lt (by omega)]
    have h3 := h2.drop 1
    rw [List.drop_drop, List.drop_drop] at h3
    exact h3.imp (fun u x hh => tPut.ext (tPut.ext0 hh hx) P.ext (fun k hk _ => hq0 k hk))
  · rw [← e, List.length_set, hn]
theorem HalfAt.first {us sp : List Value} (h : Each (tPut.rep Q0 w) us xs) (hB : Blk w b E (flat us ++ sp)) (hn : (flat us ++ sp).length = cap * 2) : HalfAt w b cap E xs Q0 Q1 0 :=
  ⟨us, sp, .nil, h, h.length, hB, hn⟩
theorem HalfAt.last (h : HalfAt w b cap E xs Q0 Q1 xs.length) (hl : xs.length < Lim) (hc : xs.length ≤ cap) : Own tPutO Q1 E w (.slice (some ⟨b, 0, none⟩) xs.length cap) xs b := by
  obtain ⟨us, sp, h1, h2, hlen, hB, hn⟩ := h
  rw [List.take_of_length_le (by omega), List.take_length] at h1
  exact ⟨hl, .inr ⟨cap, us, sp, rfl, hc, h1, hB, hn⟩⟩
theorem HalfAt.ext0 (h : HalfAt w b cap E xs Q0 Q1 i) (hx : Ext (fun _ => False) w w1) : HalfAt w1 b cap E xs Q0 Q1 i := by
  obtain ⟨us, sp, h1, h2, hl, hB, hn⟩ := h
  exact ⟨us, sp, h1.imp (fun u x hh => tPutO.ext0 hh hx), h2.imp (fun u x hh => tPut.ext0 hh hx), hl, hB.ext hx (fun x => x), hn⟩
end
def HalfO (w : World) (v : Value) (E : TypeId) (xs : List disk.Put) (Q0 Q1 B : Nat → Prop) (i : Nat) : Prop :=
  (xs = [] ∧ v = .slice none 0 0) ∨ ∃ b cap, v = .slice (some ⟨b, 0, none⟩) xs.length cap ∧ xs.length ≤ cap ∧ B b ∧ xs.length < Lim ∧ HalfAt w b cap E xs Q0 Q1 i
theorem HalfO.first {w : World} {v : Value} {E : TypeId} {xs : List disk.Put} {Q0 Q1 B : Nat → Prop} (h : OwnO tPut Q0 E w v xs B) : HalfO w v E xs Q0 Q1 B 0 := by
  rcases h with h | ⟨b, h1, h2, hl, ⟨rfl, rfl⟩ | ⟨cap, us, sp, rfl, hc, he, hB, hn⟩⟩
  · exact .inl h
  · exact .inl ⟨rfl, rfl⟩
  · exact .inr ⟨b, cap, rfl, hc, h1, hl, HalfAt.first he hB hn⟩
theorem HalfO.last {w : World} {v : Value} {E : TypeId} {xs : List disk.Put} {Q0 Q1 B : Nat → Prop} (h : HalfO w v E xs Q0 Q1 B xs.length) : OwnO tPutO Q1 E w v xs B := by
  rcases h with h | ⟨b, cap, rfl, hc, hb, hl, h⟩
  · exact .inl h
  · have h' := h.last hl hc
    obtain ⟨us, sp, _, _, _, hB, _⟩ := h
    exact .inr ⟨b, hb, hB.lt, h'⟩
theorem HalfO.ext0 {w w1 : World} {v : Value} {E : TypeId} {xs : List disk.Put} {Q0 Q1 B : Nat → Prop} {i : Nat} (h : HalfO w v E xs Q0 Q1 B i) (hx : Ext (fun _ => False) w w1) : HalfO w1 v E xs Q0 Q1 B i := by
  rcases h with h | ⟨b, cap, rfl, hc, hb, hl, h⟩
  · exact .inl h
  · exact .inr ⟨b, cap, rfl, hc, hb, hl, h.ext0 hx⟩
theorem OwnB.of {w : World} {v : Value} {l : Bs} {b : Nat} {P : Nat → Prop} (h : Own tByte (fun _ => False) 5 w v l b) (hb : P b) : tOwnB.rep P w v l := OwnO.of h hb
end Go.Proofs.YthliepcjfnjnoaaGreatDoor
namespace Go.Proofs.YthliepcjfnjnoaaGreatDoor
open Go disk
theorem all_take {α : Type} {p : α → Bool} {l : List α} {k : Nat} (hk : k < l.length) (h : (l.take k).all p = true) (hp : p l[k] = true) : (l.take (k + 1)).all p = true := by
  rw [List.take_succ_eq_append_getElem hk, List.all_append, h]
  simp [hp]
theorem Check_fn {w : World} {v : Value} {d : Disk} (h : tDisk.rep All w v d) : Fn Tryz.prog 42 [v] w (fun r w2 => r = i64 (checkF d) ∧ Ext (fun _ => False) w w2) := by
  obtain ⟨u, u', rfl, hd, hw, hc1, hc2⟩ := tDisk.val h
  obtain ⟨a, cap, rfl, hcap⟩ := Sl.val hd
  obtain ⟨aw, capw, rfl, hcapw⟩ := Sl.val hw
  have hlim := Sl.lim hd
  have hlimw := Sl.lim hw
  simp only [Lim] at hlim hlimw
  refine Fn.enter (fun w => Tryz.call42 _ w) Tryz.func42 rfl ?_
  refine .seq (.region ?_)
  refine .v rfl rfl (.box rfl) ?_
  rintro _ w1 ⟨rfl, N1⟩
  have B1 := N1.blk
  refine .p rfl rfl (.as rfl) ?_
  refine .nil (.code (.seq (.seq (.keep [(1, _)] ⟨rfl, trivial⟩ (.region ?_)))))
  refine .p rfl rfl (.fieldAddr rfl rfl rfl rfl) ?_
  refine .p rfl rfl (.load rfl rfl rfl (B1.cell 0)) ?_
  refine .p rfl rfl (.lt rfl rfl) ?_
  refine .p rfl rfl (.mv rfl) ?_
  refine .caseD 8 rfl (fun c8 => ?_) (fun c8 => ?_)
  · refine .skip rfl rfl ?_
    refine .skip rfl rfl ?_
    refine .skip rfl rfl ?_
    refine .p rfl rfl (.pickT rfl rfl) ?_
    refine .p rfl rfl (.mv rfl) ?_
    refine .skip rfl rfl ?_
    refine .skip rfl rfl ?_
    refine .skip rfl rfl ?_
    refine .skip rfl rfl ?_
    refine .skip rfl rfl ?_
    refine .skip rfl rfl ?_
    refine .skip rfl rfl ?_
    refine .p rfl rfl (.pickT rfl rfl) ?_
    refine .p rfl rfl (.mv rfl) ?_
    refine .skip rfl rfl ?_
    refine .skip rfl rfl ?_
    refine .skip rfl rfl ?_
    refine .skip rfl rfl ?_
    refine .p rfl rfl (.pickT rfl rfl) ?_
    refine .nil (.code (.keep [(27, _), (1, _)] ⟨rfl, rfl, trivial⟩ (.condT rfl (.seq (.keep [] trivial (.region ?_))))))
    refine .p rfl rfl (.as rfl) ?_
    refine .nil (.code ?_)
    refine .ret _ rfl ?_
    exact ⟨by unfold checkF; rw [if_pos (by omega)]; rfl, N1.ext⟩
  · refine .p rfl rfl (.fieldAddr rfl rfl rfl rfl) ?_
    refine .p rfl rfl (.load rfl rfl rfl (B1.cell 0)) ?_
    refine .p rfl rfl (.gt rfl rfl) ?_
    refine .p rfl rfl (.pickF rfl rfl) ?_
    refine .p rfl rfl (.mv rfl) ?_
    refine .caseD 13 rfl (fun c13 => ?_) (fun c13 => ?_)
    · refine .skip rfl rfl ?_
      refine .skip rfl rfl ?_
      refine .skip rfl rfl ?_
      refine .skip rfl rfl ?_
      refine .skip rfl rfl ?_
      refine .skip rfl rfl ?_
      refine .skip rfl rfl ?_
      refine .p rfl rfl (.pickT rfl rfl) ?_
      refine .p rfl rfl (.mv rfl) ?_
      refine .skip rfl rfl ?_
      refine .skip rfl rfl ?_
      refine .skip rfl rfl ?_
      refine .skip rfl rfl ?_
      refine .p rfl rfl (.pickT rfl rfl) ?_
      refine .nil (.code (.keep [(27, _), (1, _)] ⟨rfl, rfl, trivial⟩ (.condT rfl (.seq (.keep [] trivial (.region ?_))))))
      refine .p rfl rfl (.as rfl) ?_
      refine .nil (.code ?_)
      refine .ret _ rfl ?_
      exact ⟨by unfold checkF; rw [if_pos (by omega)]; rfl, N1.ext⟩
    · refine .p rfl rfl (.fieldAddr rfl rfl rfl rfl) ?_
      refine .p rfl rfl (.load rfl rfl rfl (B1.cell 1)) ?_
      refine .p rfl rfl (.len rfl rfl) ?_
      refine .p rfl rfl (.fieldAddr rfl rfl rfl rfl) ?_
      refine .p rfl rfl (.load rfl rfl rfl (B1.cell 0)) ?_
      refine .p rfl rfl (.mul rfl rfl (by omega)) ?_
      refine .p rfl rfl (.ne rfl rfl) ?_
      refine .p rfl rfl (.pickF rfl rfl) ?_
      refine .p rfl rfl (.mv rfl) ?_
      refine .caseD 22 rfl (fun c22 => ?_) (fun c22 => ?_)
      · refine .skip rfl rfl ?_
        refine .skip rfl rfl ?_
        refine .skip rfl rfl ?_
        refine .skip rfl rfl ?_
        refine .p rfl rfl (.pickT rfl rfl) ?_
        refine .nil (.code (.keep [(27, _), (1, _)] ⟨rfl, rfl, trivial⟩ (.condT rfl (.seq (.keep [] trivial (.region ?_))))))
        refine .p rfl rfl (.as rfl) ?_
        refine .nil (.code ?_)
        refine .ret _ rfl ?_
        exact ⟨by unfold checkF; rw [if_pos (by omega)]; rfl, N1.ext⟩
      · refine .p rfl rfl (.fieldAddr rfl rfl rfl rfl) ?_
        refine .p rfl rfl (.load rfl rfl rfl (B1.cell 2)) ?_
        refine .p rfl rfl (.len rfl rfl) ?_
        refine .p rfl rfl (.gt rfl rfl) ?_
        refine .p rfl rfl (.pickF rfl rfl) ?_
        refine .nil (.code (.keep [(27, _), (1, _)] ⟨rfl, rfl, trivial⟩ ?_))
        refine .condD rfl (fun c27 => ?_) (fun c27 => ?_)
        · refine .seq (.keep [] trivial (.region ?_))
          refine .p rfl rfl (.as rfl) ?_
          refine .nil (.code ?_)
          refine .ret _ rfl ?_
          exact ⟨by unfold checkF; rw [if_pos (by omega)]; rfl, N1.ext⟩
        · refine .skip (.code (.seq (.seq (.keep [(1, _)] ⟨rfl, trivial⟩ (.region ?_)))))
          refine .p rfl rfl (.fieldAddr rfl rfl rfl rfl) ?_
          refine .p rfl rfl (.load rfl rfl rfl (B1.cell 2)) ?_
          refine .p rfl rfl (.len rfl rfl) ?_
          refine .p rfl rfl (.mv rfl) ?_
          refine .nil (.code (.block (.keep [(31, _), (30, _), (29, _), (1, _)] ⟨rfl, rfl, rfl, rfl, trivial⟩ ?_)))
          refine .loop (S := Nat × World) (fun s => [(1, .pointer (some ⟨w.heap.size, 0, none⟩)), (29, .slice aw d.waits.length capw), (30, i64 d.waits.length), (31, i64 s.1)]) (fun s => s.2) (fun s => s.1 ≤ d.waits.length ∧ Ext (fun _ => False) w1 s.2 ∧ (d.waits.take s.1).all (okPut d.count) = true) (fun s => d.waits.length - s.1) (0, w1) ⟨rfl, rfl, rfl, rfl, trivial⟩ rfl ⟨Nat.zero_le _, .refl _, rfl⟩ ?_
          rintro ⟨i, wi⟩ J ⟨hi', hX, hall⟩ again
          simp only at hi' hX hall
          refine .seq (.region ?_)
          refine .p rfl rfl (.lt rfl rfl) ?_
          refine .nil (.code (.seq ?_))
          refine .condD rfl (fun c32 => ?_) (fun c32 => ?_)
          · have hi : i < d.waits.length := by omega
            obtain ⟨bw, ow, cw, ue, e, _, hcs, hre⟩ := Sl.at hw (List.getElem?_eq_getElem hi)
            cases e
            obtain ⟨ud, rfl, hud, hs1, hs2⟩ := tPut.val hre
            obtain ⟨ad, capd, rfl, _⟩ := Sl.val hud
            have hcs' := hcs.ext (N1.ext.trans hX) (fun x => x)
            refine .skip (.code (.seq (.block (.seq (.keep [(1, _), (29, _), (30, _), (31, _)] ⟨rfl, rfl, rfl, rfl, trivial⟩ (.region ?_))))))
            refine .p rfl rfl (.indexAddr (s := 2) rfl rfl rfl rfl (by omega)) ?_
            refine .p rfl rfl (.loadA (n := 2) rfl rfl rfl rfl rfl hcs') ?_
            refine .v rfl rfl (.alloc rfl rfl) ?_
            rintro _ w4 ⟨rfl, N4⟩
            refine .s rfl (.storeAll (n := 2) rfl rfl rfl rfl rfl N4.blk rfl) ?_
            intro w5 P5
            have X5 := N4.ext.then P5.ext (by rintro k rfl _; exact Nat.le_refl _)
            have B4 := P5.blk
            have B1' := B1.ext (hX.trans X5) (fun x => x)
            refine .nil (.code (.seq (.keep [(4, _), (1, _), (29, _), (30, _), (31, _)] ⟨rfl, rfl, rfl, rfl, rfl, trivial⟩ (.region ?_))))
            refine .p rfl rfl (.fieldAddr rfl rfl rfl rfl) ?_
            refine .p rfl rfl (.load rfl rfl rfl (B4.cell 0)) ?_
            refine .p rfl rfl (.lt rfl rfl) ?_
            refine .p rfl rfl (.mv rfl) ?_
            refine .caseD 38 rfl (fun c38 => ?_) (fun c38 => ?_)
            · refine .skip rfl rfl ?_
              refine .skip rfl rfl ?_
              refine .skip rfl rfl ?_
              refine .skip rfl rfl ?_
              refine .skip rfl rfl ?_
              refine .p rfl rfl (.pickT rfl rfl) ?_
              refine .p rfl rfl (.mv rfl) ?_
              refine .skip rfl rfl ?_
              refine .skip rfl rfl ?_
              refine .skip rfl rfl ?_
              refine .skip rfl rfl ?_
              refine .p rfl rfl (.pickT rfl rfl) ?_
              refine .nil (.code (.keep [(50, _), (1, _), (29, _), (30, _), (31, _)] ⟨rfl, rfl, rfl, rfl, rfl, trivial⟩ (.condT rfl (.seq (.keep [] trivial (.region ?_))))))
              refine .p rfl rfl (.as rfl) ?_
              refine .nil (.code ?_)
              refine .ret _ rfl ?_
              have e : checkF d = 20 := by
                unfold checkF
                split
                · rfl
                · rw [if_neg]
                  intro h
                  have := List.all_eq_true.1 h _ (List.getElem_mem hi)
                  unfold okPut at this
                  rw [decide_eq_true_eq] at this
                  omega
              exact ⟨by rw [e]; rfl, N1.ext.trans (hX.trans X5)⟩
            · refine .p rfl rfl (.fieldAddr rfl rfl rfl rfl) ?_
              refine .p rfl rfl (.load rfl rfl rfl (B4.cell 0)) ?_
              refine .p rfl rfl (.fieldAddr rfl rfl rfl rfl) ?_
              refine .p rfl rfl (.load rfl rfl rfl (B1'.cell 0)) ?_
              refine .p rfl rfl (.ge rfl rfl) ?_
              refine .p rfl rfl (.pickF rfl rfl) ?_
              refine .p rfl rfl (.mv rfl) ?_
              refine .caseD 45 rfl (fun c45 => ?_) (fun c45 => ?_)
              · refine .skip rfl rfl ?_
                refine .skip rfl rfl ?_
                refine .skip rfl rfl ?_
                refine .skip rfl rfl ?_
                refine .p rfl rfl (.pickT rfl rfl) ?_
                refine .nil (.code (.keep [(50, _), (1, _), (29, _), (30, _), (31, _)] ⟨rfl, rfl, rfl, rfl, rfl, trivial⟩ (.condT rfl (.seq (.keep [] trivial (.region ?_))))))
                refine .p rfl rfl (.as rfl) ?_
                refine .nil (.code ?_)
                refine .ret _ rfl ?_
                have e : checkF d = 20 := by
                  unfold checkF
                  split
                  · rfl
                  · rw [if_neg]
                    intro h
                    have := List.all_eq_true.1 h _ (List.getElem_mem hi)
                    unfold okPut at this
                    rw [decide_eq_true_eq] at this
                    omega
                exact ⟨by rw [e]; rfl, N1.ext.trans (hX.trans X5)⟩
              · refine .p rfl rfl (.fieldAddr rfl rfl rfl rfl) ?_
                refine .p rfl rfl (.load rfl rfl rfl (B4.cell 1)) ?_
                refine .p rfl rfl (.len rfl rfl) ?_
                refine .p rfl rfl (.ne rfl rfl) ?_
                refine .p rfl rfl (.pickF rfl rfl) ?_
                refine .nil (.code (.keep [(50, _), (1, _), (29, _), (30, _), (31, _)] ⟨rfl, rfl, rfl, rfl, rfl, trivial⟩ ?_))
                refine .condD rfl (fun c50 => ?_) (fun c50 => ?_)
                · refine .seq (.keep [] trivial (.region ?_))
                  refine .p rfl rfl (.as rfl) ?_
                  refine .nil (.code ?_)
                  refine .ret _ rfl ?_
                  have e : checkF d = 20 := by
                    unfold checkF
                    split
                    · rfl
                    · rw [if_neg]
                      intro h
                      have := List.all_eq_true.1 h _ (List.getElem_mem hi)
                      unfold okPut at this
                      rw [decide_eq_true_eq] at this
                      omega
                  exact ⟨by rw [e]; rfl, N1.ext.trans (hX.trans X5)⟩
                · refine .skip (.blk (.code (.keep [(1, _), (29, _), (30, _), (31, _)] ⟨rfl, rfl, rfl, rfl, trivial⟩ (.region ?_))))
                  refine .p rfl rfl (.add rfl rfl (by omega)) ?_
                  refine .p rfl rfl (.mv rfl) ?_
                  refine .nil ?_
                  exact (again (i + 1, w5) ⟨by show i + 1 ≤ _; omega, hX.trans X5, all_take hi hall (by unfold okPut; rw [decide_eq_true_eq]; omega)⟩ (by show _ - (i + 1) < _ - i; omega)).of ⟨rfl, rfl, rfl, rfl, trivial⟩
          · refine .exit rfl (.code (.seq (.keep [] trivial (.region ?_))))
            refine .p rfl rfl (.as rfl) ?_
            refine .nil (.code ?_)
            refine .ret _ rfl ?_
            obtain rfl : i = d.waits.length := by omega
            rw [List.take_length] at hall
            exact ⟨by unfold checkF; rw [if_neg (by omega), if_pos hall]; rfl, N1.ext.trans hX⟩
theorem bytesClone_fn {w : World} {v : Value} {l : Bs} (h : tBytes.rep All w v l) : Fn Tryz.prog 46 [v] w (fun r w2 => ∃ b, Own tByte (fun _ => False) 5 w2 r l b ∧ w.heap.size ≤ b ∧ Ext (fun _ => False) w w2) := by
  obtain ⟨a, cap, rfl, hcap⟩ := Sl.val h
  have hlim := Sl.lim h
  simp only [Lim] at hlim
  refine Fn.enter (fun w => Tryz.call46 _ w) Tryz.func46 rfl ?_
  refine .seq (.region ?_)
  refine .p rfl rfl (.as rfl) ?_
  refine .nil (.code (.seq (.seq (.keep [(0, _)] ⟨rfl, trivial⟩ (.region ?_)))))
  refine .p rfl rfl (.mv rfl) ?_
  refine .p rfl rfl (.eqNil rfl rfl rfl) ?_
  refine .nil (.code (.keep [(4, _), (0, _)] ⟨rfl, rfl, trivial⟩ ?_))
  refine .cond rfl (fun c4 => ?_) (fun c4 => ?_)
  · refine .seq (.keep [] trivial (.region ?_))
    refine .p rfl rfl (.as rfl) ?_
    refine .nil (.code ?_)
    refine .ret _ rfl ?_
    rw [Sl.isNone h c4]
    exact ⟨w.heap.size, Own.nil, Nat.le_refl _, .refl _⟩
  · refine .skip (.code (.seq (.keep [(0, _)] ⟨rfl, trivial⟩ (.region ?_))))
    refine .v rfl rfl (.lits rfl rfl (fun _ => by kernel_rfl)) ?_
    rintro _ w5 ⟨rfl, N5⟩
    refine .p rfl rfl (.mv rfl) ?_
    refine .v rfl rfl (.append (t := tByte) (Q := fun _ => False) (eb := 1) rfl (Own.ofNew (us := []) N5 .nil (by decide) rfl rfl) rfl (Sl.holds (tBytes.ext0 h N5.ext) (fun _ _ h => h)) rfl rfl rfl rfl rfl rfl rfl (by simp; omega) (by simp [Lim]; omega) (fun _ h _ => h.elim)) ?_
    rintro v7 w7 ⟨b7, O7, X7, hb7⟩
    have O7 := O7.mono (Q' := fun _ => False) (fun _ h _ => h.1)
    have Z7 := N5.ext.then X7 (by rintro k rfl _; omega)
    have hz5 := N5.size
    refine .p rfl rfl (.as rfl) ?_
    refine .nil (.code ?_)
    refine .ret _ rfl ?_
    exact ⟨b7, O7, by omega, Z7⟩
theorem putsClone_fn {w : World} {v : Value} {l : List disk.Put} {R : Nat → Prop} (h : (Sl tPut).rep R w v l) (hl : l.length ≤ 4096) : Fn Tryz.prog 73 [v] w (fun r w2 => OwnO tPut (fun k => R k ∧ k < w.heap.size) 94 w2 r l (fun k => w.heap.size ≤ k) ∧ Ext (fun _ => False) w w2) := by
  obtain ⟨a, cap, rfl, hcap⟩ := Sl.val h
  refine Fn.enter (fun w => Tryz.call73 _ w) Tryz.func73 rfl ?_
  refine .seq (.region ?_)
  refine .p rfl rfl (.as rfl) ?_
  refine .nil (.code (.seq (.seq (.keep [(0, _)] ⟨rfl, trivial⟩ (.region ?_)))))
  refine .p rfl rfl (.mv rfl) ?_
  refine .p rfl rfl (.eqNil rfl rfl rfl) ?_
  refine .nil (.code (.keep [(4, _), (0, _)] ⟨rfl, rfl, trivial⟩ ?_))
  refine .cond rfl (fun c4 => ?_) (fun c4 => ?_)
  · refine .seq (.keep [] trivial (.region ?_))
    refine .p rfl rfl (.as rfl) ?_
    refine .nil (.code ?_)
    refine .ret _ rfl ?_
    rw [Sl.isNone h c4]
    exact ⟨OwnO.nil, .refl _⟩
  · refine .skip (.code (.seq (.keep [(0, _)] ⟨rfl, trivial⟩ (.region ?_))))
    refine .v rfl rfl (.lits rfl rfl (fun _ => by kernel_rfl)) ?_
    rintro _ w5 ⟨rfl, N5⟩
    refine .p rfl rfl (.mv rfl) ?_
    refine .v rfl rfl (.append (t := tPut) (Q := fun k => R k ∧ k < w.heap.size) (eb := 32) rfl (Own.ofNew (us := []) N5 .nil (by decide) rfl rfl) rfl (Sl.holds ((Sl tPut).ext0 ((Sl tPut).mono h (P' := fun k => R k ∧ k < w.heap.size) (fun k h1 h2 => ⟨h1, h2⟩)) N5.ext) (fun _ _ h => h)) rfl rfl rfl rfl rfl rfl rfl (by simp; omega) (by simp [Lim]; omega) (fun k h _ => Nat.ne_of_lt h.2)) ?_
    rintro v7 w7 ⟨b7, O7, X7, hb7⟩
    have O7 := O7.mono (Q' := fun k => R k ∧ k < w.heap.size) (fun _ h _ => h.1)
    have Z7 := N5.ext.then X7 (by rintro k rfl _; omega)
    have hz5 := N5.size
    refine .p rfl rfl (.as rfl) ?_
    refine .nil (.code ?_)
    refine .ret _ rfl ?_
    exact ⟨OwnO.of O7 (by show w.heap.size ≤ b7; omega), Z7⟩
namespace disk
def askedF (d : Disk) (n : Int) : Int := if ¬ checkF d = 0 then checkF d else if n < 0 ∨ d.count ≤ n then 21 else 0
theorem check_ok {d : Disk} (h : checkF d = 0) : 1 ≤ d.count ∧ d.count ≤ 4096 ∧ (d.data.length : Int) = d.count * 128 ∧ d.waits.length ≤ 4096 ∧ ∀ p ∈ d.waits, 0 ≤ p.sector ∧ p.sector < d.count ∧ p.data.length = 128 := by
  unfold checkF at h
  split at h
  · cases h
  · split at h
    · rename_i c1 c2
      refine ⟨by omega, by omega, by omega, by omega, fun p hp => ?_⟩
      have := List.all_eq_true.1 c2 p hp
      unfold okPut at this
      rwa [decide_eq_true_eq] at this
    · cases h
end disk
theorem asked_fn {w : World} {v : Value} {d : Disk} {n : Int} (h : tDisk.rep All w v d) : Fn Tryz.prog 120 [v, i64 n] w (fun r w2 => r = i64 (askedF d n) ∧ Ext (fun _ => False) w w2) := by
  obtain ⟨u, u', rfl, hd, hw, hc1, hc2⟩ := tDisk.val h
  refine Fn.enter (fun w => Tryz.call120 _ w) Tryz.func120 rfl ?_
  refine .seq (.region ?_)
  refine .v rfl rfl (.box rfl) ?_
  rintro _ w2 ⟨rfl, N2⟩
  refine .p rfl rfl (.as rfl) ?_
  refine .nil (.code (.seq (.seq (.keep [(2, _), (1, _)] ⟨rfl, rfl, trivial⟩ (.region ?_)))))
  refine .p rfl rfl (.loadA (n := 3) rfl rfl rfl rfl rfl N2.blk.cells) ?_
  refine .call (first := []) (captured := []) rfl rfl rfl rfl (Check_fn (tDisk.ext0 h N2.ext)) ?_
  rintro _ w7 ⟨rfl, X7⟩
  have B7 := N2.blk.ext X7 (fun x => x)
  refine .p rfl rfl (.as rfl) ?_
  refine .nil (.code (.seq (.keep [(5, _), (2, _), (1, _)] ⟨rfl, rfl, rfl, trivial⟩ (.region ?_))))
  refine .p rfl rfl (.mv rfl) ?_
  refine .p rfl rfl (.ne rfl rfl) ?_
  refine .nil (.code (.keep [(9, _), (5, _), (2, _), (1, _)] ⟨rfl, rfl, rfl, rfl, trivial⟩ ?_))
  refine .condD rfl (fun c9 => ?_) (fun c9 => ?_)
  · refine .seq (.keep [(5, _)] ⟨rfl, trivial⟩ (.region ?_))
    refine .p rfl rfl (.mv rfl) ?_
    refine .p rfl rfl (.as rfl) ?_
    refine .nil (.code ?_)
    refine .ret _ rfl ?_
    exact ⟨by unfold askedF; rw [if_pos c9]; rfl, N2.ext.trans X7⟩
  · refine .skip (.code (.seq (.seq (.keep [(2, _), (1, _)] ⟨rfl, rfl, trivial⟩ (.region ?_)))))
    refine .p rfl rfl (.mv rfl) ?_
    refine .p rfl rfl (.lt rfl rfl) ?_
    refine .p rfl rfl (.mv rfl) ?_
    refine .caseD 13 rfl (fun c13 => ?_) (fun c13 => ?_)
    · refine .skip rfl rfl ?_
      refine .skip rfl rfl ?_
      refine .skip rfl rfl ?_
      refine .skip rfl rfl ?_
      refine .p rfl rfl (.pickT rfl rfl) ?_
      refine .nil (.code (.keep [(18, _)] ⟨rfl, trivial⟩ (.condT rfl (.seq (.keep [] trivial (.region ?_))))))
      refine .p rfl rfl (.as rfl) ?_
      refine .nil (.code ?_)
      refine .ret _ rfl ?_
      exact ⟨by unfold askedF; rw [if_neg c9, if_pos (by omega)]; rfl, N2.ext.trans X7⟩
    · refine .p rfl rfl (.mv rfl) ?_
      refine .p rfl rfl (.fieldAddr rfl rfl rfl rfl) ?_
      refine .p rfl rfl (.load rfl rfl rfl (B7.cell 0)) ?_
      refine .p rfl rfl (.ge rfl rfl) ?_
      refine .p rfl rfl (.pickF rfl rfl) ?_
      refine .nil (.code (.keep [(18, _)] ⟨rfl, trivial⟩ ?_))
      refine .condD rfl (fun c18 => ?_) (fun c18 => ?_)
      · refine .seq (.keep [] trivial (.region ?_))
        refine .p rfl rfl (.as rfl) ?_
        refine .nil (.code ?_)
        refine .ret _ rfl ?_
        exact ⟨by unfold askedF; rw [if_neg c9, if_pos (by omega)]; rfl, N2.ext.trans X7⟩
      · refine .skip (.code (.seq (.keep [] trivial (.region ?_))))
        refine .p rfl rfl (.as rfl) ?_
        refine .nil (.code ?_)
        refine .ret _ rfl ?_
        exact ⟨by unfold askedF; rw [if_neg c9, if_neg (by omega)]; rfl, N2.ext.trans X7⟩
theorem Sure_fn {w : World} {v : Value} {d : Disk} {n : Int} (h : tDisk.rep All w v d) : Fn Tryz.prog 121 [v, i64 n] w (fun r w2 => ∃ s b, r = .tuple #[s, i64 (askedF d n)] ∧ Own tByte (fun _ => False) 5 w2 s (if askedF d n = 0 then (d.data.drop (n.toNat * 128)).take 128 else []) b ∧ w.heap.size ≤ b ∧ Ext (fun _ => False) w w2) := by
  obtain ⟨u, u', rfl, hd, hw, hc1, hc2⟩ := tDisk.val h
  obtain ⟨a, cap, rfl, hcap⟩ := Sl.val hd
  refine Fn.enter (fun w => Tryz.call121 _ w) Tryz.func121 rfl ?_
  refine .seq (.region ?_)
  refine .v rfl rfl (.box rfl) ?_
  rintro _ w2 ⟨rfl, N2⟩
  refine .p rfl rfl (.as rfl) ?_
  refine .p rfl rfl (.as rfl) ?_
  refine .nil (.code (.seq (.seq (.keep [(2, _), (1, _)] ⟨rfl, rfl, trivial⟩ (.region ?_)))))
  refine .p rfl rfl (.loadA (n := 3) rfl rfl rfl rfl rfl N2.blk.cells) ?_
  refine .p rfl rfl (.mv rfl) ?_
  refine .call (first := []) (captured := []) rfl rfl rfl rfl (asked_fn (n := n) (tDisk.ext0 h N2.ext)) ?_
  rintro _ w9 ⟨rfl, X9⟩
  have B9 := N2.blk.ext X9 (fun x => x)
  refine .p rfl rfl (.as rfl) ?_
  refine .nil (.code (.seq (.keep [(6, _), (2, _), (1, _)] ⟨rfl, rfl, rfl, trivial⟩ (.region ?_))))
  refine .p rfl rfl (.mv rfl) ?_
  refine .p rfl rfl (.ne rfl rfl) ?_
  refine .nil (.code (.keep [(11, _), (6, _), (2, _), (1, _)] ⟨rfl, rfl, rfl, rfl, trivial⟩ ?_))
  refine .condD rfl (fun c11 => ?_) (fun c11 => ?_)
  · refine .seq (.keep [(6, _)] ⟨rfl, trivial⟩ (.region ?_))
    refine .p rfl rfl (.mv rfl) ?_
    refine .p rfl rfl (.as rfl) ?_
    refine .p rfl rfl (.as rfl) ?_
    refine .nil (.code ?_)
    refine .ret _ rfl ?_
    exact ⟨_, w.heap.size, rfl, by rw [if_neg c11]; exact Own.nil, Nat.le_refl _, N2.ext.trans X9⟩
  · have hA : askedF d n = 0 := Decidable.byContradiction c11
    have hA2 := hA
    unfold askedF at hA2
    split at hA2
    · omega
    split at hA2
    · omega
    rename_i hck hrg
    obtain ⟨k1, k2, k3, k4, k5⟩ := check_ok (Decidable.byContradiction hck)
    obtain ⟨m, rfl⟩ := Int.eq_ofNat_of_zero_le (a := n) (by omega)
    obtain ⟨a3, cap3, hv17, hc17, R17⟩ := Sl.cutE hd (m * 128) d.data.length (by omega) (by omega)
    obtain ⟨a4, cap4, hv18, hc18, R18⟩ := Sl.cutE R17 0 128 (by omega) (by omega)
    rw [List.take_length, List.drop_zero] at R18
    simp only [Nat.sub_zero] at hv18 R18
    refine .skip (.code (.seq (.keep [(2, _), (1, _)] ⟨rfl, rfl, trivial⟩ (.region ?_))))
    refine .p rfl rfl (.fieldAddr rfl rfl rfl rfl) ?_
    refine .p rfl rfl (.load rfl rfl rfl (B9.cell 1)) ?_
    refine .p rfl rfl (.mv rfl) ?_
    refine .p rfl rfl (.mul rfl rfl (by omega)) ?_
    refine .p rfl rfl (.cast (.cutLo (s := 1) rfl rfl rfl rfl (by omega)) (by show cutV 1 a cap ((m : Int) * 128).toNat d.data.length = .slice a3 (d.data.length - m * 128) cap3; rw [show ((m : Int) * 128).toNat = m * 128 by omega]; exact hv17)) ?_
    refine .p rfl rfl (.cast (.cutHi (s := 1) rfl rfl rfl rfl (by omega)) hv18) ?_
    refine .call (first := []) (captured := []) rfl rfl rfl rfl (bytesClone_fn (tBytes.ext0 R18 (N2.ext.trans X9))) ?_
    rintro s19 w19 ⟨b19, O19, hb19, X19⟩
    have z2 := N2.size
    have z9 := X9.size
    refine .p rfl rfl (.as rfl) ?_
    refine .p rfl rfl (.as rfl) ?_
    refine .nil (.code ?_)
    refine .ret _ rfl ?_
    exact ⟨_, b19, by rw [hA]; rfl, by rw [if_pos hA]; exact O19, by omega, N2.ext.trans (X9.trans X19)⟩
namespace disk
def nodisk : Disk := ⟨0, [], []⟩
def newF (n : Int) : Disk × Int := if n < 1 ∨ 4096 < n then (nodisk, 20) else (⟨n, List.replicate (n.toNat * 128) 0, []⟩, 0)
def lastOf (ws : List disk.Put) (n : Int) : Option Bs := (ws.reverse.find? (fun p => p.sector = n)).map (·.data)
def readF (d : Disk) (n : Int) : Bs := match lastOf d.waits n with | some b => b | none => (d.data.drop (n.toNat * 128)).take 128
end disk
theorem zeros_own {n k : Nat} {w w2 : World} {E : TypeId} {Q : Nat → Prop} (N : New w w2 E (List.replicate n (Value.int .u8 0))) (hn : n < Lim) (hk : k = n) (hq : Q w.heap.size) : tBytes.rep Q w2 (Value.slice (some { block := w.heap.size, off := 0 }) k k) (List.replicate n 0) := by
  subst hk
  exact Sl.mkBytesB N.blk (by rw [List.length_replicate, List.take_of_length_le (by simp)]; simp [u8]) hq (by simp) (by simpa using hn) (by simp)
theorem New_fn {w : World} {n : Int} : Fn Tryz.prog 47 [i64 n] w (fun r w2 => ∃ v, r = .tuple #[v, i64 (newF n).2] ∧ tDisk.rep (fun k => w.heap.size ≤ k) w2 v (newF n).1 ∧ Ext (fun _ => False) w w2) := by
  refine Fn.enter (fun w => Tryz.call47 _ w) Tryz.func47 rfl ?_
  refine .seq (.region ?_)
  refine .v rfl rfl (.alloc rfl rfl) ?_
  rintro _ w2 ⟨rfl, N2⟩
  refine .p rfl rfl (.as rfl) ?_
  refine .nil (.code (.seq (.seq (.keep [(2, _), (0, _)] ⟨rfl, rfl, trivial⟩ (.region ?_)))))
  refine .p rfl rfl (.mv rfl) ?_
  refine .p rfl rfl (.lt rfl rfl) ?_
  refine .p rfl rfl (.mv rfl) ?_
  refine .caseD 6 rfl (fun c6 => ?_) (fun c6 => ?_)
  · refine .skip rfl rfl ?_
    refine .skip rfl rfl ?_
    refine .p rfl rfl (.pickT rfl rfl) ?_
    refine .nil (.code (.keep [(9, _), (2, _), (0, _)] ⟨rfl, rfl, rfl, trivial⟩ (.condT rfl (.seq (.keep [(2, _)] ⟨rfl, trivial⟩ (.region ?_))))))
    refine .p rfl rfl (.build (cs := [i64 0, .slice none 0 0, .slice none 0 0]) rfl (fun _ => by kernel_rfl)) ?_
    refine .s rfl (.storeAll (n := 3) rfl rfl rfl rfl rfl N2.blk rfl) ?_
    intro w10 P10
    have X10 := N2.ext.then P10.ext (by rintro k rfl _; exact Nat.le_refl _)
    refine .p rfl rfl (.as rfl) ?_
    refine .nil (.code ?_)
    refine .retR (.cell (n := 3) rfl rfl rfl rfl rfl (P10.blk.cells) (.tmp rfl .nil)) ?_
    exact ⟨_, by unfold newF; rw [if_pos (by omega)]; rfl, by unfold newF; rw [if_pos (by omega)]; exact tDisk.mk (d := nodisk) Sl.nil Sl.nil (by decide), X10⟩
  · refine .p rfl rfl (.mv rfl) ?_
    refine .p rfl rfl (.gt rfl rfl) ?_
    refine .p rfl rfl (.pickF rfl rfl) ?_
    refine .nil (.code (.keep [(9, _), (2, _), (0, _)] ⟨rfl, rfl, rfl, trivial⟩ ?_))
    refine .condD rfl (fun c9 => ?_) (fun c9 => ?_)
    · refine .seq (.keep [(2, _)] ⟨rfl, trivial⟩ (.region ?_))
      refine .p rfl rfl (.build (cs := [i64 0, .slice none 0 0, .slice none 0 0]) rfl (fun _ => by kernel_rfl)) ?_
      refine .s rfl (.storeAll (n := 3) rfl rfl rfl rfl rfl N2.blk rfl) ?_
      intro w10 P10
      have X10 := N2.ext.then P10.ext (by rintro k rfl _; exact Nat.le_refl _)
      refine .p rfl rfl (.as rfl) ?_
      refine .nil (.code ?_)
      refine .retR (.cell (n := 3) rfl rfl rfl rfl rfl (P10.blk.cells) (.tmp rfl .nil)) ?_
      exact ⟨_, by unfold newF; rw [if_pos (by omega)]; rfl, by unfold newF; rw [if_pos (by omega)]; exact tDisk.mk (d := nodisk) Sl.nil Sl.nil (by decide), X10⟩
    · refine .skip (.code (.seq (.keep [(2, _), (0, _)] ⟨rfl, rfl, trivial⟩ (.region ?_))))
      refine .p rfl rfl (.mv rfl) ?_
      refine .p rfl rfl (.mv rfl) ?_
      refine .p rfl rfl (.mul rfl rfl (by omega)) ?_
      refine .v rfl rfl (.make (eb := 1) rfl rfl rfl rfl rfl rfl rfl rfl (by omega)) ?_
      rintro _ w14 ⟨rfl, N14⟩
      refine .p rfl rfl (.build (cs := [i64 n, .slice (some ⟨w2.heap.size, 0, none⟩) (n * 128).toNat (n * 128).toNat, .slice none 0 0]) rfl (fun _ => by kernel_rfl)) ?_
      refine .s rfl (.storeAll (n := 3) rfl rfl rfl rfl rfl (N2.blk.ext N14.ext (fun x => x)) rfl) ?_
      intro w15 P15
      have X15 := (N2.ext.trans N14.ext).then P15.ext (by rintro k rfl _; exact Nat.le_refl _)
      have hz := N2.size
      refine .p rfl rfl (.as rfl) ?_
      refine .nil (.code ?_)
      refine .retR (.cell (n := 3) rfl rfl rfl rfl rfl (P15.blk.cells) (.tmp rfl .nil)) ?_
      have e : newF n = (⟨n, List.replicate (n * 128).toNat 0, []⟩, 0) := by unfold newF; rw [if_neg (by omega), show (n * 128).toNat = n.toNat * 128 by omega]
      rw [e]
      have R := zeros_own (Q := (· = w2.heap.size)) N14 (by simp only [Lim]; omega) rfl rfl
      have R2 := tBytes.ext R P15.ext (by rintro k rfl _ he; have he : w2.heap.size = w.heap.size := he; omega)
      exact ⟨_, rfl, tDisk.mk (d := ⟨n, List.replicate (n * 128).toNat 0, []⟩) (tBytes.mono R2 (by rintro k rfl _; show w.heap.size ≤ w2.heap.size; omega)) Sl.nil (by show -9223372036854775808 ≤ n ∧ n ≤ 9223372036854775807; omega), X15⟩
namespace disk
theorem last_some {ws : List disk.Put} {n : Int} {i : Nat} (hi : ws.length - 1 - i < ws.length) (hlt : i < ws.length) (hall : ∀ j (hj : ws.length - 1 - j < ws.length), j < i → ¬ (ws[ws.length - 1 - j]).sector = n) (h : (ws[ws.length - 1 - i]).sector = n) : lastOf ws n = some (ws[ws.length - 1 - i]).data := by
  unfold lastOf
  have : ws.reverse.find? (fun p => p.sector = n) = some ws[ws.length - 1 - i] := by
    rw [List.find?_eq_some_iff_getElem]
    refine ⟨by simpa using h, i, by simpa using hlt, by rw [List.getElem_reverse], fun j hj => ?_⟩
    rw [List.getElem_reverse]
    simpa using hall j (by omega) hj
  rw [this]
  rfl
theorem last_none {ws : List disk.Put} {n : Int} (hall : ∀ j (hj : ws.length - 1 - j < ws.length), j < ws.length → ¬ (ws[ws.length - 1 - j]).sector = n) : lastOf ws n = none := by
  unfold lastOf
  have : ws.reverse.find? (fun p => p.sector = n) = none := by
    rw [List.find?_eq_none]
    intro p hp
    rw [List.mem_reverse] at hp
    obtain ⟨k, hk, rfl⟩ := List.mem_iff_getElem.1 hp
    have := hall (ws.length - 1 - k) (by omega) (by omega)
    have e : ws.length - 1 - (ws.length - 1 - k) = k := by omega
    simp only [e] at this
    simpa using this
  rw [this]
  rfl
end disk
theorem DiskRead_fn {w : World} {v : Value} {d : Disk} {n : Int} (h : tDisk.rep All w v d) : Fn Tryz.prog 82 [v, i64 n] w (fun r w2 => ∃ s b, r = .tuple #[s, i64 (askedF d n)] ∧ Own tByte (fun _ => False) 5 w2 s (if askedF d n = 0 then readF d n else []) b ∧ w.heap.size ≤ b ∧ Ext (fun _ => False) w w2) := by
  obtain ⟨u, u', rfl, hd, hw, hc1, hc2⟩ := tDisk.val h
  obtain ⟨aw, capw, rfl, hcapw⟩ := Sl.val hw
  refine Fn.enter (fun w => Tryz.call82 _ w) Tryz.func82 rfl ?_
  refine .seq (.region ?_)
  refine .v rfl rfl (.box rfl) ?_
  rintro _ w2 ⟨rfl, N2⟩
  refine .p rfl rfl (.as rfl) ?_
  refine .p rfl rfl (.as rfl) ?_
  refine .nil (.code (.seq (.seq (.keep [(2, _), (1, _)] ⟨rfl, rfl, trivial⟩ (.region ?_)))))
  refine .p rfl rfl (.loadA (n := 3) rfl rfl rfl rfl rfl N2.blk.cells) ?_
  refine .p rfl rfl (.mv rfl) ?_
  refine .call (first := []) (captured := []) rfl rfl rfl rfl (asked_fn (n := n) (tDisk.ext0 h N2.ext)) ?_
  rintro _ w11 ⟨rfl, X11⟩
  have B11 := N2.blk.ext X11 (fun x => x)
  refine .p rfl rfl (.as rfl) ?_
  refine .nil (.code (.seq (.keep [(6, _), (2, _), (1, _)] ⟨rfl, rfl, rfl, trivial⟩ (.region ?_))))
  refine .p rfl rfl (.mv rfl) ?_
  refine .p rfl rfl (.ne rfl rfl) ?_
  refine .nil (.code (.keep [(13, _), (6, _), (2, _), (1, _)] ⟨rfl, rfl, rfl, rfl, trivial⟩ ?_))
  refine .condD rfl (fun c13 => ?_) (fun c13 => ?_)
  · refine .seq (.keep [(6, _)] ⟨rfl, trivial⟩ (.region ?_))
    refine .p rfl rfl (.mv rfl) ?_
    refine .p rfl rfl (.as rfl) ?_
    refine .p rfl rfl (.as rfl) ?_
    refine .nil (.code ?_)
    refine .ret _ rfl ?_
    exact ⟨_, w.heap.size, rfl, by rw [if_neg c13]; exact Own.nil, Nat.le_refl _, N2.ext.trans X11⟩
  · have hA : askedF d n = 0 := Decidable.byContradiction c13
    have hA2 := hA
    unfold askedF at hA2
    split at hA2
    · omega
    split at hA2
    · omega
    rename_i hck hrg
    obtain ⟨k1, k2, k3, k4, k5⟩ := check_ok (Decidable.byContradiction hck)
    refine .skip (.code (.seq (.seq (.keep [(2, _), (1, _)] ⟨rfl, rfl, trivial⟩ (.region ?_)))))
    refine .p rfl rfl (.fieldAddr rfl rfl rfl rfl) ?_
    refine .p rfl rfl (.load rfl rfl rfl (B11.cell 2)) ?_
    refine .p rfl rfl (.len rfl rfl) ?_
    refine .p rfl rfl (.mv rfl) ?_
    refine .nil (.code (.block (.keep [(18, _), (17, _), (2, _), (1, _)] ⟨rfl, rfl, rfl, rfl, trivial⟩ ?_)))
    refine .loop (S := Nat × World) (fun s => [(2, .pointer (some ⟨w.heap.size, 0, none⟩)), (17, i64 d.waits.length), (18, i64 s.1), (1, i64 n)]) (fun s => s.2) (fun s => s.1 ≤ d.waits.length ∧ Ext (fun _ => False) w11 s.2 ∧ ∀ j (hj : d.waits.length - 1 - j < d.waits.length), j < s.1 → ¬ (d.waits[d.waits.length - 1 - j]).sector = n) (fun s => d.waits.length - s.1) (0, w11) ⟨rfl, rfl, rfl, rfl, trivial⟩ rfl ⟨Nat.zero_le _, .refl _, fun j hj h => absurd h (Nat.not_lt_zero _)⟩ ?_
    rintro ⟨i, wi⟩ J ⟨hi', hX, hall⟩ again
    simp only at hi' hX hall
    refine .seq (.region ?_)
    refine .p rfl rfl (.lt rfl rfl) ?_
    refine .nil (.code (.seq ?_))
    refine .condD rfl (fun c19 => ?_) (fun c19 => ?_)
    · have hil : i < d.waits.length := by omega
      have hi : d.waits.length - 1 - i < d.waits.length := by omega
      have Bi := B11.ext hX (fun x => x)
      obtain ⟨bw, ow, cw, ue, e, _, hcs, hre⟩ := Sl.at hw (List.getElem?_eq_getElem hi)
      cases e
      obtain ⟨ud, rfl, hud, hs1, hs2⟩ := tPut.val hre
      obtain ⟨ad, capd, rfl, _⟩ := Sl.val hud
      have hcs' := hcs.ext (N2.ext.trans (X11.trans hX)) (fun x => x)
      have e28 : ((d.waits.length : Int) - 1 - (i : Int)).toNat = d.waits.length - 1 - i := by omega
      refine .skip (.code (.seq (.block (.seq (.keep [(2, _), (17, _), (18, _), (1, _)] ⟨rfl, rfl, rfl, rfl, trivial⟩ (.region ?_))))))
      refine .p rfl rfl (.mv rfl) ?_
      refine .p rfl rfl (.as rfl) ?_
      refine .nil (.code (.seq (.keep [(7, _), (2, _), (17, _), (18, _), (1, _)] ⟨rfl, rfl, rfl, rfl, rfl, trivial⟩ (.region ?_))))
      refine .p rfl rfl (.fieldAddr rfl rfl rfl rfl) ?_
      refine .p rfl rfl (.load rfl rfl rfl (Bi.cell 2)) ?_
      refine .p rfl rfl (.fieldAddr rfl rfl rfl rfl) ?_
      refine .p rfl rfl (.load rfl rfl rfl (Bi.cell 2)) ?_
      refine .p rfl rfl (.len rfl rfl) ?_
      refine .p rfl rfl (.sub rfl rfl (by omega)) ?_
      refine .p rfl rfl (.mv rfl) ?_
      refine .p rfl rfl (.sub rfl rfl (by omega)) ?_
      refine .p rfl rfl (.indexAddr (s := 2) rfl rfl rfl rfl (by omega)) ?_
      refine .p rfl rfl (.loadA (n := 2) rfl rfl rfl rfl rfl (by rw [e28]; exact hcs')) ?_
      refine .v rfl rfl (.alloc rfl rfl) ?_
      rintro _ w8 ⟨rfl, N8⟩
      refine .s rfl (.storeAll (n := 2) rfl rfl rfl rfl rfl N8.blk rfl) ?_
      intro w9 P9
      have X9 := N8.ext.then P9.ext (by rintro k rfl _; exact Nat.le_refl _)
      have B9 := P9.blk
      refine .nil (.code (.seq (.keep [(8, _), (2, _), (17, _), (18, _), (1, _)] ⟨rfl, rfl, rfl, rfl, rfl, trivial⟩ (.region ?_))))
      refine .p rfl rfl (.fieldAddr rfl rfl rfl rfl) ?_
      refine .p rfl rfl (.load rfl rfl rfl (B9.cell 0)) ?_
      refine .p rfl rfl (.mv rfl) ?_
      refine .p rfl rfl (.eq rfl rfl) ?_
      refine .nil (.code (.keep [(34, _), (8, _), (2, _), (17, _), (18, _), (1, _)] ⟨rfl, rfl, rfl, rfl, rfl, rfl, trivial⟩ ?_))
      refine .condD rfl (fun c34 => ?_) (fun c34 => ?_)
      · refine .seq (.keep [(8, _)] ⟨rfl, trivial⟩ (.region ?_))
        refine .p rfl rfl (.fieldAddr rfl rfl rfl rfl) ?_
        refine .p rfl rfl (.load rfl rfl rfl (B9.cell 1)) ?_
        refine .call (first := []) (captured := []) rfl rfl rfl rfl (bytesClone_fn (tBytes.ext0 hud (N2.ext.trans (X11.trans (hX.trans X9))))) ?_
        rintro s37 w37 ⟨b37, O37, hb37, X37⟩
        refine .p rfl rfl (.as rfl) ?_
        refine .p rfl rfl (.as rfl) ?_
        refine .nil (.code ?_)
        refine .ret _ rfl ?_
        have hl := last_some hi hil hall c34
        have hz := (N2.ext.trans (X11.trans (hX.trans X9))).size
        exact ⟨_, b37, by rw [hA]; rfl, by rw [if_pos hA, readF, hl]; exact O37, by omega, N2.ext.trans (X11.trans (hX.trans (X9.trans X37)))⟩
      · refine .skip (.blk (.code (.keep [(2, _), (17, _), (18, _), (1, _)] ⟨rfl, rfl, rfl, rfl, trivial⟩ (.region ?_))))
        refine .p rfl rfl (.add rfl rfl (by omega)) ?_
        refine .p rfl rfl (.mv rfl) ?_
        refine .nil ?_
        refine (again (i + 1, w9) ⟨by show i + 1 ≤ _; omega, hX.trans X9, fun j hj hlt => ?_⟩ (by show _ - (i + 1) < _ - i; omega)).of ⟨rfl, rfl, rfl, rfl, trivial⟩
        have hlt : j < i + 1 := hlt
        rcases Nat.lt_or_ge j i with h1 | h1
        · exact hall j hj h1
        · obtain rfl : j = i := by omega
          exact c34
    · refine .exit rfl (.code (.seq (.keep [(2, _), (1, _)] ⟨rfl, rfl, trivial⟩ (.region ?_))))
      refine .p rfl rfl (.loadA (n := 3) rfl rfl rfl rfl rfl (B11.ext hX (fun x => x)).cells) ?_
      refine .p rfl rfl (.mv rfl) ?_
      refine .call (first := []) (captured := []) rfl rfl rfl rfl (Sure_fn (n := n) (tDisk.ext0 h (N2.ext.trans (X11.trans hX)))) ?_
      rintro _ w41 ⟨s41, b41, rfl, O41, hb41, X41⟩
      refine .p rfl rfl (.extract rfl rfl) ?_
      refine .p rfl rfl (.extract rfl rfl) ?_
      refine .p rfl rfl (.as rfl) ?_
      refine .p rfl rfl (.as rfl) ?_
      refine .nil (.code ?_)
      refine .ret _ rfl ?_
      obtain rfl : i = d.waits.length := by omega
      have hl := last_none (n := n) hall
      have hz : w.heap.size ≤ wi.heap.size := (N2.ext.trans (X11.trans hX)).size
      have hb : wi.heap.size ≤ b41 := hb41
      rw [if_pos hA] at O41
      exact ⟨_, b41, rfl, by rw [if_pos hA, readF, hl]; exact O41, by omega, N2.ext.trans (X11.trans (hX.trans X41))⟩
end Go.Proofs.YthliepcjfnjnoaaGreatDoor
