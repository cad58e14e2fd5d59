
/-
  Values that read as data, in blocks of a given set; what makes and writes memory. No program in sight.
-/
import Derived.Test.YthkgadhamecnlaaMem
set_option linter.unusedVariables false
set_option linter.unusedSimpArgs false
namespace Go.Proofs.Ythkgadhamecnlaa
open Go

/-- A kind of data: how many cells it takes; when a value reads so, all its memory lying in blocks of P. -/
structure Ty (α : Type) where
  size : Nat
  rep : (Nat → Prop) → World → Value → α → Prop
  sz : ∀ {P w v x}, rep P w v x → v.cells.size = size
  one : ∀ {P w v x}, rep P w v x → ∀ u ∈ v.cells.toList, u.oneCell' = true
  keep : ∀ {P w w' v x}, rep P w v x → (∀ k, P k → k < w.heap.size → w'.heap[k]? = w.heap[k]?) → rep P w' v x
  mono : ∀ {P P' w v x}, rep P w v x → (∀ k, P k → k < w.heap.size → P' k) → rep P' w v x
abbrev All : Nat → Prop := fun _ => True
theorem Ty.ext {α : Type} (t : Ty α) {P S : Nat → Prop} {w w' : World} {v : Value} {x : α} (h : t.rep P w v x) (hx : Ext S w w') (hs : ∀ k, P k → k < w.heap.size → ¬ S k) : t.rep P w' v x :=
  t.keep h (fun k hk hlt => hx.block k hlt (hs k hk hlt))
theorem Ty.ext0 {α : Type} (t : Ty α) {P : Nat → Prop} {w w' : World} {v : Value} {x : α} (h : t.rep P w v x) (hx : Ext (fun _ => False) w w') : t.rep P w' v x := t.ext h hx (fun _ _ _ hf => hf)
theorem Ty.all {α : Type} (t : Ty α) {P : Nat → Prop} {w : World} {v : Value} {x : α} (h : t.rep P w v x) : t.rep All w v x := t.mono h (fun _ _ _ => trivial)

theorem allOf {α : Type} {t : Ty α} {P : Nat → Prop} {w : World} {v : Value} {x : α} (h : t.rep P w v x) : t.rep All w v x := t.mono h (fun _ _ _ => trivial)
abbrev Lim : Nat := 140737488355328
def tByte : Ty UInt8 := { size := 1, rep := fun _ _ v x => v = u8 x, sz := by rintro _ _ _ _ rfl; rfl, one := by rintro _ _ _ _ rfl u hu; simp [Value.cells] at hu; subst hu; rfl, keep := fun h _ => h, mono := fun h _ => h }
def tU32 : Ty UInt32 := { size := 1, rep := fun _ _ v x => v = u32 x, sz := by rintro _ _ _ _ rfl; rfl, one := by rintro _ _ _ _ rfl u hu; simp [Value.cells] at hu; subst hu; rfl, keep := fun h _ => h, mono := fun h _ => h }
def tBool : Ty Bool := { size := 1, rep := fun _ _ v x => v = .bool x, sz := by rintro _ _ _ _ rfl; rfl, one := by rintro _ _ _ _ rfl u hu; simp [Value.cells] at hu; subst hu; rfl, keep := fun h _ => h, mono := fun h _ => h }
def tInt : Ty Int := { size := 1, rep := fun _ _ v x => v = i64 x ∧ -9223372036854775808 ≤ x ∧ x ≤ 9223372036854775807, sz := by rintro _ _ _ _ ⟨rfl, _⟩; rfl, one := by rintro _ _ _ _ ⟨rfl, _⟩ u hu; simp [Value.cells] at hu; subst hu; rfl, keep := fun h _ => h, mono := fun h _ => h }
def tStr : Ty Bs := { size := 1, rep := fun _ _ v x => v = str x ∧ x.length < Lim, sz := by rintro _ _ _ _ ⟨rfl, _⟩; rfl, one := by rintro _ _ _ _ ⟨rfl, _⟩ u hu; simp [Value.cells] at hu; subst hu; rfl, keep := fun h _ => h, mono := fun h _ => h }

def flat (us : List Value) : List Value := us.flatMap (·.cells.toList)
theorem flat_nil : flat [] = [] := rfl
theorem flat_cons (u : Value) (us : List Value) : flat (u :: us) = u.cells.toList ++ flat us := by simp [flat]
theorem flat_append (a b : List Value) : flat (a ++ b) = flat a ++ flat b := by simp [flat]
theorem flat_length {n : Nat} : ∀ {us : List Value}, (∀ u ∈ us, u.cells.size = n) → (flat us).length = us.length * n
  | [], _ => by simp [flat]
  | u :: us, h => by
    rw [flat_cons, List.length_append, flat_length (fun x hx => h x (by simp [hx])), Array.length_toList, h u (by simp)]
    simp [Nat.add_mul, Nat.add_comm]
theorem flat_one {us : List Value} (h : ∀ u ∈ us, u.oneCell' = true) : flat us = us := by
  induction us with
  | nil => rfl
  | cons u us ih =>
    rw [flat_cons, ih (fun x hx => h x (by simp [hx]))]
    have := h u (by simp)
    cases u <;> simp_all [Value.cells, Value.oneCell']
theorem flat_take {n : Nat} : ∀ {us : List Value} (k : Nat), (∀ u ∈ us, u.cells.size = n) → flat (us.take k) = (flat us).take (k * n)
  | [], k, _ => by simp [flat]
  | u :: us, 0, _ => by simp [flat]
  | u :: us, k + 1, h => by
    have hu : u.cells.toList.length = n := by rw [Array.length_toList, h u (by simp)]
    rw [List.take_succ_cons, flat_cons, flat_cons, flat_take k (fun x hx => h x (by simp [hx])), List.take_append, hu, show (k + 1) * n - n = k * n by rw [Nat.add_mul]; omega, List.take_of_length_le (l := u.cells.toList) (by rw [hu, Nat.add_mul]; omega)]
theorem flat_drop {n : Nat} : ∀ {us : List Value} (k : Nat), (∀ u ∈ us, u.cells.size = n) → flat (us.drop k) = (flat us).drop (k * n)
  | [], k, _ => by simp [flat]
  | u :: us, 0, _ => by simp
  | u :: us, k + 1, h => by
    have hu : u.cells.toList.length = n := by rw [Array.length_toList, h u (by simp)]
    rw [List.drop_succ_cons, flat_cons, flat_drop k (fun x hx => h x (by simp [hx])), List.drop_append, hu, show (k + 1) * n - n = k * n by rw [Nat.add_mul]; omega, List.drop_of_length_le (l := u.cells.toList) (by rw [hu, Nat.add_mul]; omega), List.nil_append]

/-- element by element -/
inductive Each {α : Type} (R : Value → α → Prop) : List Value → List α → Prop where
  | nil : Each R [] []
  | cons {u x us xs} : R u x → Each R us xs → Each R (u :: us) (x :: xs)
namespace Each
variable {α : Type} {R R' : Value → α → Prop} {us vs : List Value} {xs ys : List α}
theorem length (h : Each R us xs) : us.length = xs.length := by induction h <;> simp_all
theorem imp (h : Each R us xs) (hr : ∀ u x, R u x → R' u x) : Each R' us xs := by
  induction h with
  | nil => exact .nil
  | cons h1 _ ih => exact .cons (hr _ _ h1) ih
theorem append (h : Each R us xs) (h' : Each R vs ys) : Each R (us ++ vs) (xs ++ ys) := by
  induction h with
  | nil => exact h'
  | cons h1 _ ih => exact .cons h1 ih
theorem get (h : Each R us xs) : ∀ {i : Nat} {x : α}, xs[i]? = some x → ∃ u, us[i]? = some u ∧ R u x := by
  induction h with
  | nil => intro i x hi; simp at hi
  | cons h1 _ ih =>
    intro i x hi
    cases i with
    | zero => simp at hi; subst hi; exact ⟨_, rfl, h1⟩
    | succ i => simp at hi; obtain ⟨u, hu, hr⟩ := ih hi; exact ⟨u, by simpa using hu, hr⟩
theorem take (h : Each R us xs) (n : Nat) : Each R (us.take n) (xs.take n) := by
  induction h generalizing n with
  | nil => simpa using Each.nil
  | cons h1 _ ih =>
    cases n with
    | zero => simpa using Each.nil
    | succ n => simpa using Each.cons h1 (ih n)
theorem drop (h : Each R us xs) (n : Nat) : Each R (us.drop n) (xs.drop n) := by
  induction h generalizing n with
  | nil => simpa using Each.nil
  | cons h1 h2 ih =>
    cases n with
    | zero => simpa using Each.cons h1 h2
    | succ n => simpa using ih n
theorem set (h : Each R us xs) (i : Nat) {u : Value} {x : α} (hr : R u x) : Each R (us.set i u) (xs.set i x) := by
  induction h generalizing i with
  | nil => simpa using Each.nil
  | cons h1 h2 ih =>
    cases i with
    | zero => simpa using Each.cons hr h2
    | succ i => simpa using Each.cons h1 (ih i)
theorem mem {n : Nat} (h : Each R us xs) (hr : ∀ u x, R u x → u.cells.size = n) : ∀ u ∈ us, u.cells.size = n := by
  induction h with
  | nil => intro u hu; cases hu
  | cons h1 _ ih =>
    intro u hu
    cases hu with
    | head => exact hr _ _ h1
    | tail _ hu => exact ih u hu
theorem map (f : α → Value) (hf : ∀ x, R (f x) x) (xs : List α) : Each R (xs.map f) xs := by
  induction xs with
  | nil => exact .nil
  | cons x xs ih => exact .cons (hf x) ih
theorem mapMem (f : α → Value) : ∀ {xs : List α}, (∀ x ∈ xs, R (f x) x) → Each R (xs.map f) xs
  | [], _ => .nil
  | x :: xs, h => .cons (h x (by simp)) (mapMem f (fun y hy => h y (by simp [hy])))
theorem eq_map (f : α → Value) (h : Each (fun u x => u = f x) us xs) : us = xs.map f := by
  induction h with
  | nil => rfl
  | cons h1 _ ih => simp [h1, ih]
end Each

/-- a slice: its value, and what it holds -/
def Sl {α : Type} (t : Ty α) : Ty (List α) where
  size := 1
  rep P w v xs := xs.length < Lim ∧ ∃ a cap, v = .slice a xs.length cap ∧ xs.length ≤ cap ∧
    ((xs = [] ∧ cap = 0) ∨ ∃ b o us, a = some ⟨b, o, none⟩ ∧ P b ∧ b < w.heap.size ∧ Each (t.rep P w) us xs ∧ Cells w b o (flat us))
  sz := by rintro _ _ _ _ ⟨_, a, cap, rfl, _⟩; rfl
  one := by rintro _ _ _ _ ⟨_, a, cap, rfl, _⟩ u hu; simp [Value.cells] at hu; subst hu; rfl
  keep := by
    rintro P w w' v xs ⟨hl, a, cap, rfl, hc, h⟩ hk
    refine ⟨hl, a, cap, rfl, hc, ?_⟩
    rcases h with h | ⟨b, o, us, rfl, hb, hlt, he, hcs⟩
    · exact .inl h
    · have hb' := hk b hb hlt
      have hlt' : b < w'.heap.size := by
        rcases Nat.lt_or_ge b w'.heap.size with h | h
        · exact h
        · rw [Array.getElem?_eq_none h] at hb'
          simp [hlt] at hb'
      exact .inr ⟨b, o, us, rfl, hb, hlt', he.imp (fun u x h => t.keep h hk), hcs.keep hb'⟩
  mono := by
    rintro P P' w v xs ⟨hl, a, cap, rfl, hc, h⟩ hk
    refine ⟨hl, a, cap, rfl, hc, ?_⟩
    rcases h with h | ⟨b, o, us, rfl, hb, hlt, he, hcs⟩
    · exact .inl h
    · exact .inr ⟨b, o, us, rfl, hk b hb hlt, hlt, he.imp (fun u x h => t.mono h hk), hcs⟩
abbrev tBytes := Sl tByte
abbrev tInts := Sl tInt
abbrev tStrs := Sl tStr

section
variable {α : Type} {t : Ty α} {P : Nat → Prop} {w : World} {v : Value} {xs : List α}
theorem Sl.val (h : (Sl t).rep P w v xs) : ∃ a cap, v = .slice a xs.length cap ∧ xs.length ≤ cap := by obtain ⟨_, a, cap, h1, h2, _⟩ := h; exact ⟨a, cap, h1, h2⟩
theorem Sl.lim (h : (Sl t).rep P w v xs) : xs.length < Lim := h.1
/-- the element at i -/
theorem Sl.at (h : (Sl t).rep P w v xs) {i : Nat} {x : α} (hi : xs[i]? = some x) : ∃ b o cap u, v = .slice (some ⟨b, o, none⟩) xs.length cap ∧ P b ∧ Cells w b (o + i * t.size) u.cells.toList ∧ t.rep P w u x := by
  obtain ⟨_, a, cap, rfl, hc, h⟩ := h
  rcases h with ⟨rfl, _⟩ | ⟨b, o, us, rfl, hb, hlt, he, hcs⟩
  · simp at hi
  · obtain ⟨u, hu, hr⟩ := he.get hi
    refine ⟨b, o, cap, u, rfl, hb, ?_, hr⟩
    have hsz := he.mem (n := t.size) (fun u x h => t.sz h)
    have h1 := hcs.drop (i * t.size)
    rw [← flat_drop i hsz] at h1
    have hlt : i < us.length := (List.getElem?_eq_some_iff.1 hu).1
    have h2 : us.drop i = u :: us.drop (i + 1) := by
      rw [List.getElem?_eq_getElem hlt] at hu
      rw [List.drop_eq_getElem_cons hlt]
      simp at hu
      rw [hu]
    rw [h2, flat_cons] at h1
    exact h1.left
theorem Sl.nil : (Sl t).rep P w (.slice none 0 0) [] := ⟨by show 0 < Lim; decide, none, 0, rfl, Nat.le_refl _, .inl ⟨rfl, rfl⟩⟩
theorem Sl.mk {b o cap : Nat} {us : List Value} (he : Each (t.rep P w) us xs) (hc : Cells w b o (flat us)) (hb : P b) (hlt : b < w.heap.size) (hcap : xs.length ≤ cap) (hl : xs.length < Lim) {n : Nat} (hn : n = xs.length) : (Sl t).rep P w (.slice (some ⟨b, o, none⟩) n cap) xs :=
  ⟨hl, _, cap, by rw [hn], hcap, .inr ⟨b, o, us, rfl, hb, hlt, he, hc⟩⟩
theorem Sl.cut {a : Option Addr} {n cap : Nat} (h : (Sl t).rep P w (.slice a n cap) xs) (l k : Nat) (h1 : l ≤ k) (h2 : k ≤ n) : (Sl t).rep P w (cutV t.size a cap l k) ((xs.take k).drop l) := by
  obtain ⟨hl, a', cap', hv, hc, h⟩ := h
  cases hv
  have hlen : ((xs.take k).drop l).length = k - l := by simp; omega
  refine ⟨by rw [hlen]; simp only [Lim] at *; omega, (if cap = l then a else a.map (·.add (l * t.size))), cap - l, by simp [cutV, hlen], by rw [hlen]; omega, ?_⟩
  rcases h with ⟨rfl, rfl⟩ | ⟨b, o, us, rfl, hb, hlt, he, hcs⟩
  · left; simp
  · right
    by_cases hcl : cap = l
    · have hle : l = k := by omega
      subst hle
      refine ⟨b, o, [], by simp [hcl], hb, hlt, ?_, Cells.nil _ _ _⟩
      have : (xs.take l).drop l = [] := List.eq_nil_of_length_eq_zero (by rw [hlen]; omega)
      rw [this]
      exact .nil
    · refine ⟨b, o + l * t.size, (us.take k).drop l, by simp [hcl, add_none], hb, hlt, (he.take k).drop l, ?_⟩
      have hsz := he.mem (n := t.size) (fun u x h => t.sz h)
      rw [flat_drop l (fun u hu => hsz u (List.mem_of_mem_take hu)), flat_take k hsz]
      exact (hcs.take _).drop _
end
theorem each_u8 {P : Nat → Prop} {w : World} (l : Bs) : Each (tByte.rep P w) (l.map u8) l := Each.map u8 (fun _ => rfl) l
theorem flat_u8 (l : Bs) : flat (l.map u8) = l.map u8 := flat_one (by simp [Value.oneCell'])
theorem Sl.bytes {P : Nat → Prop} {w : World} {v : Value} {l : Bs} (h : tBytes.rep P w v l) : l.length < Lim ∧ ∃ a cap, v = .slice a l.length cap ∧ l.length ≤ cap ∧ ((l = [] ∧ cap = 0) ∨ ∃ b o, a = some ⟨b, o, none⟩ ∧ P b ∧ b < w.heap.size ∧ Cells w b o (l.map u8)) := by
  obtain ⟨hl, a, cap, rfl, hc, h⟩ := h
  refine ⟨hl, a, cap, rfl, hc, ?_⟩
  rcases h with h | ⟨b, o, us, rfl, hb, hlt, he, hcs⟩
  · exact .inl h
  · have : us = l.map u8 := Each.eq_map u8 he
    subst this
    rw [flat_u8] at hcs
    exact .inr ⟨b, o, rfl, hb, hlt, hcs⟩
theorem Sl.byteAt {P : Nat → Prop} {w : World} {a : Option Addr} {n cap : Nat} {l : Bs} (h : tBytes.rep P w (.slice a n cap) l) {k : Nat} (hk : k < l.length) : ∃ b o, a = some ⟨b, o, none⟩ ∧ P b ∧ w.cell? ⟨b, o + k, none⟩ = some (u8 l[k]) := by
  obtain ⟨_, a', cap', hv, _, h⟩ := Sl.bytes h
  cases hv
  rcases h with ⟨rfl, _⟩ | ⟨b, o, rfl, hb, _, hc⟩
  · simp at hk
  · exact ⟨b, o, rfl, hb, hc k _ (by simp [hk])⟩
theorem Sl.mkBytes {P : Nat → Prop} {w : World} {b o cap n : Nat} {l : Bs} (hc : Cells w b o (l.map u8)) (hb : P b) (hlt : b < w.heap.size) (hcap : l.length ≤ cap) (hl : l.length < Lim) (hn : n = l.length) : tBytes.rep P w (.slice (some ⟨b, o, none⟩) n cap) l :=
  Sl.mk (each_u8 l) (by rw [flat_u8]; exact hc) hb hlt hcap hl hn
theorem Sl.cellAt {α : Type} {t : Ty α} {P : Nat → Prop} {w : World} {a : Option Addr} {n cap : Nat} {xs : List α} (h : (Sl t).rep P w (.slice a n cap) xs) (h1 : t.size = 1) (f : α → Value) (hf : ∀ u x, t.rep P w u x → u = f x ∧ (f x).cells = #[f x]) {k : Nat} (hk : k < xs.length) :
    ∃ b o, a = some ⟨b, o, none⟩ ∧ P b ∧ w.cell? ⟨b, o + k, none⟩ = some (f xs[k]) ∧ t.rep P w (f xs[k]) xs[k] := by
  obtain ⟨b, o, cap', u, hv, hb, hc, hr⟩ := Sl.at h (List.getElem?_eq_getElem hk)
  cases hv
  obtain ⟨rfl, h2⟩ := hf _ _ hr
  refine ⟨b, o, rfl, hb, ?_, hr⟩
  rw [h2, h1, Nat.mul_one] at hc
  exact hc 0 _ rfl
theorem Sl.strAt {P : Nat → Prop} {w : World} {a : Option Addr} {n cap : Nat} {xs : List Bs} (h : tStrs.rep P w (.slice a n cap) xs) {k : Nat} (hk : k < xs.length) : ∃ b o, a = some ⟨b, o, none⟩ ∧ P b ∧ w.cell? ⟨b, o + k, none⟩ = some (str xs[k]) ∧ xs[k].length < Lim := by
  obtain ⟨b, o, h1, h2, h3, h4⟩ := Sl.cellAt h rfl str (fun u x hx => ⟨hx.1, rfl⟩) hk
  exact ⟨b, o, h1, h2, h3, h4.2⟩
theorem Sl.intAt {P : Nat → Prop} {w : World} {a : Option Addr} {n cap : Nat} {xs : List Int} (h : tInts.rep P w (.slice a n cap) xs) {k : Nat} (hk : k < xs.length) : ∃ b o, a = some ⟨b, o, none⟩ ∧ P b ∧ w.cell? ⟨b, o + k, none⟩ = some (i64 xs[k]) ∧ (-9223372036854775808 ≤ xs[k] ∧ xs[k] ≤ 9223372036854775807) := by
  obtain ⟨b, o, h1, h2, h3, h4⟩ := Sl.cellAt h rfl i64 (fun u x hx => ⟨hx.1, rfl⟩) hk
  exact ⟨b, o, h1, h2, h3, h4.2⟩
theorem Sl.mkInts {P : Nat → Prop} {w : World} {b cap n : Nat} {E : TypeId} {l : List Int} {cs : List Value} (hB : Blk w b E cs) (hcs : cs.take l.length = l.map i64) (hr : ∀ x ∈ l, -9223372036854775808 ≤ x ∧ x ≤ 9223372036854775807) (hb : P b) (hcap : l.length ≤ cap) (hl : l.length < Lim) (hn : n = l.length) :
    tInts.rep P w (.slice (some ⟨b, 0, none⟩) n cap) l :=
  Sl.mk (us := l.map i64) (Each.mapMem i64 (fun x hx => show tInt.rep P w (i64 x) x from ⟨rfl, hr x hx⟩)) (by rw [flat_one (by simp [Value.oneCell']), ← hcs]; exact hB.cells.take _) hb hB.lt hcap hl hn
theorem Sl.mkBytesB {P : Nat → Prop} {w : World} {b cap n : Nat} {E : TypeId} {l : Bs} {cs : List Value} (hB : Blk w b E cs) (hcs : cs.take l.length = l.map u8) (hb : P b) (hcap : l.length ≤ cap) (hl : l.length < Lim) (hn : n = l.length) :
    tBytes.rep P w (.slice (some ⟨b, 0, none⟩) n cap) l :=
  Sl.mkBytes (by rw [← hcs]; exact hB.cells.take _) hb hB.lt hcap hl hn
end Go.Proofs.Ythkgadhamecnlaa
