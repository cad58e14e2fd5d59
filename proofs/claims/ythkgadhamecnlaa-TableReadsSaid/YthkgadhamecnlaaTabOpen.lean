
/-
  table.open: a table taken apart.
-/
import Derived.Test.YthkgadhamecnlaaTabRead
import Derived.Test.YthkgadhamecnlaaBRead
import Derived.Test.YthkgadhamecnlaaPRead
import Derived.Test.YthkgadhamecnlaaEqual
import Derived.Test.YthkgadhamecnlaaBits
set_option linter.unusedVariables false
set_option linter.unusedSimpArgs false
set_option maxRecDepth 20000
namespace Go.Proofs.Ythkgadhamecnlaa
open Go page table
theorem Sl.cutH {α : Type} {t : Ty α} {P : Nat → Prop} {w : World} {xs : List α} {a : Option Addr} {n cap : Nat} (h : (Sl t).rep P w (.slice a n cap) xs) (k : Nat) (h2 : k ≤ n) :
    ∃ a' cap', cutV t.size a cap 0 k = .slice a' k cap' ∧ k ≤ cap' ∧ (Sl t).rep P w (.slice a' k cap') (xs.take k) := Sl.cutE h 0 k (Nat.zero_le _) h2
theorem Sl.len {α : Type} {t : Ty α} {P : Nat → Prop} {w : World} {xs : List α} {a : Option Addr} {n cap : Nat} (h : (Sl t).rep P w (.slice a n cap) xs) : xs.length = n := by obtain ⟨_, a0, c0, e, _⟩ := h; cases e; rfl
theorem Sl.cutL {α : Type} {t : Ty α} {P : Nat → Prop} {w : World} {xs : List α} {a : Option Addr} {n cap : Nat} (h : (Sl t).rep P w (.slice a n cap) xs) (l : Nat) (h2 : l ≤ n) :
    ∃ a' cap', cutV t.size a cap l n = .slice a' (n - l) cap' ∧ n - l ≤ cap' ∧ (Sl t).rep P w (.slice a' (n - l) cap') (xs.drop l) := by
  have := Sl.cutE h l n h2 (Nat.le_refl _)
  have hl := Sl.len h
  rw [List.take_of_length_le (by omega)] at this
  exact this
theorem OwnO.along {α : Type} {t : Ty α} {Q : Nat → Prop} {E : TypeId} {w w1 w2 w3 : World} {v : Value} {xs : List α} {p θ : Nat} {γ γ' : Nat → Nat} (h : OwnO t Q E w v xs (fun k => γ k = θ)) (h1 : Ext (· = p) w w1) (hγ : ∀ k, k < w.heap.size → γ' k = γ k) (h2 : Ext (fun k => γ' k = 7) w1 w2) (h3 : Ext (· = p) w2 w3)
    (hp : γ p = 0) (hpw : p < w.heap.size) (h0 : θ ≠ 0) (h7 : θ ≠ 7) (hQ : ∀ k, Q k → γ k = 5) : OwnO t Q E w3 v xs (fun k => γ' k = θ) := by
  have g1 := OwnO.mono h (Q' := fun k => Q k ∧ k < w.heap.size) (B' := fun k => γ k = θ ∧ k < w.heap.size) (fun k h hk => ⟨h, hk⟩) (fun k h hk => ⟨h, hk⟩)
  have np : ∀ k, γ k ≠ 0 → ¬ k = p := fun k hk e => by subst e; exact hk hp
  have g2 := OwnO.ext g1 h1 (fun k h _ e => np k (by omega) e) (fun k h _ e => np k (by rw [hQ k h.1]; decide) e)
  have g3 := OwnO.ext g2 h2 (fun k h _ e => by have := hγ k h.2; omega) (fun k h _ e => by have := hγ k h.2; have := hQ k h.1; omega)
  have g4 := OwnO.ext g3 h3 (fun k h _ e => np k (by omega) e) (fun k h _ e => np k (by rw [hQ k h.1]; decide) e)
  exact OwnO.mono g4 (fun k h _ => h.1) (fun k h _ => (hγ k h.2).trans h.1)
theorem Sl.along {α : Type} {t : Ty α} {w w1 w2 w3 : World} {v : Value} {x : α} {p : Nat} {γ γ' : Nat → Nat} {P P' : Nat → Prop} (h : t.rep P w v x) (h1 : Ext (· = p) w w1) (hγ : ∀ k, k < w.heap.size → γ' k = γ k) (h2 : Ext (fun k => γ' k = 7) w1 w2) (h3 : Ext (· = p) w2 w3)
    (hp : γ p = 0) (hP : ∀ k, k < w.heap.size → P k → γ k ≠ 0 ∧ γ k ≠ 7 ∧ P' k) : t.rep P' w3 v x := by
  have g1 := t.mono h (P' := fun k => P k ∧ k < w.heap.size) (fun k h hk => ⟨h, hk⟩)
  have np : ∀ k, γ k ≠ 0 → ¬ k = p := fun k hk e => by subst e; exact hk hp
  have g2 := t.ext g1 h1 (fun k h _ e => np k (hP k h.2 h.1).1 e)
  have g3 := t.ext g2 h2 (fun k h _ e => by have := hγ k h.2; have := (hP k h.2 h.1).2.1; omega)
  have g4 := t.ext g3 h3 (fun k h _ e => np k (hP k h.2 h.1).1 e)
  exact t.mono g4 (fun k h _ => (hP k h.2 h.1).2.2)
namespace table
theorem entry_any {P P' : Nat → Prop} {w : World} {v : Value} {x : Entry} (h : tEntry.rep P w v x) : tEntry.rep P' w v x := by
  obtain ⟨rfl, h1, h2, h3⟩ := tEntry.val h
  exact tEntry.mk h1 h2 h3
theorem get8_bd (l : Bs) : get8 l < 18446744073709551616 := by
  unfold get8
  split
  · exact getTo_bd l (by omega)
  · decide
/-- a table as it is read: the colours of blocks: 0 the struct's, 2 to 4 and 7 the rows', 6 the sieve's, 5 what stood there, 8 others -/
def RG (w : World) (p : Nat) (c : Nat → Nat) (lo : Nat) (rows : List Row) (sv : Bs) : Prop :=
  ∃ v1 v2 v3 v4 v5, Blk w p 89 [v1, v2, v3, v4, v5] ∧ OwnO tBytes (fun k => k < lo) 24 w v1 (rows.map (·.bytes)) (fun k => c k = 2) ∧ OwnO tStr (fun _ => False) 9 w v2 (rows.map (·.fst)) (fun k => c k = 3) ∧ OwnO tStr (fun _ => False) 9 w v3 (rows.map (·.lst)) (fun k => c k = 4) ∧ tBytes.rep (fun k => c k = 6) w v4 sv ∧ OwnO tEntry (fun _ => False) 33 w v5 (entsR rows) (fun k => c k = 7) ∧ c p = 0 ∧ (∀ k, k < lo → c k = 5) ∧ lo ≤ w.heap.size
/-- a table that was read -/
def OG (w : World) (p : Nat) (lo : Nat) (rows : List Row) (sv : Bs) : Prop :=
  ∃ v1 v2 v3 v4 v5, Blk w p 89 [v1, v2, v3, v4, v5] ∧ (Sl tBytes).rep All w v1 (rows.map (·.bytes)) ∧ (Sl tStr).rep All w v2 (rows.map (·.fst)) ∧ (Sl tStr).rep All w v3 (rows.map (·.lst)) ∧ tBytes.rep All w v4 sv ∧ OwnO tEntry (fun _ => False) 33 w v5 (entsR rows) (fun k => lo ≤ k)
theorem RG.done {w : World} {p : Nat} {c : Nat → Nat} {lo : Nat} {rows : List Row} {sv : Bs} (h : RG w p c lo rows sv) : OG w p lo rows sv := by
  obtain ⟨v1, v2, v3, v4, v5, Bp, O1, O2, O3, R4, O5, hp0, hlo, hlo2⟩ := h
  exact ⟨v1, v2, v3, v4, v5, Bp, OwnO.rep O1 (fun _ _ _ => trivial) (fun _ _ _ => trivial), OwnO.rep O2 (fun _ _ _ => trivial) (fun _ h _ => h.elim), OwnO.rep O3 (fun _ _ _ => trivial) (fun _ h _ => h.elim), tBytes.mono R4 (fun _ _ _ => trivial), OwnO.mono O5 (fun _ h _ => h) (fun k h _ => Nat.not_lt.1 (fun hk => by have := hlo k hk; omega))⟩
theorem OG.ext0 {w w2 : World} {p lo : Nat} {rows : List Row} {sv : Bs} (h : OG w p lo rows sv) (hX : Ext (fun _ => False) w w2) : OG w2 p lo rows sv := by
  obtain ⟨v1, v2, v3, v4, v5, Bp, R1, R2, R3, R4, O5⟩ := h
  exact ⟨v1, v2, v3, v4, v5, Bp.ext hX (fun x => x), (Sl tBytes).ext0 R1 hX, (Sl tStr).ext0 R2 hX, (Sl tStr).ext0 R3 hX, tBytes.ext0 R4 hX, OwnO.ext0 O5 hX⟩
theorem RGx {w w2 : World} {p : Nat} {c : Nat → Nat} {lo : Nat} {rows : List Row} {sv : Bs} (h : RG w p c lo rows sv) (hX : Ext (fun _ => False) w w2) : RG w2 p c lo rows sv := by
  obtain ⟨v1, v2, v3, v4, v5, Bp, O1, O2, O3, R4, O5, hp0, hlo, hlo2⟩ := h
  exact ⟨v1, v2, v3, v4, v5, Bp.ext hX (fun x => x), OwnO.ext0 O1 hX, OwnO.ext0 O2 hX, OwnO.ext0 O3 hX, tBytes.ext0 R4 hX, OwnO.ext0 O5 hX, hp0, hlo, Nat.le_trans hlo2 hX.size⟩
theorem entsR_snoc (rows : List Row) (r : Row) : entsR (rows ++ [r]) = entsR rows ++ r.ents := by unfold entsR; simp
theorem idxB_length {b : Bs} (h : ¬ ((inB b).length < nB b ∨ (inB b).length - nB b < kB b)) : (idxB b).length = kB b := by
  unfold idxB
  rw [List.length_drop, List.length_take]
  omega
theorem map_snoc (o : Option (List Row)) (done : List Row) (r : Row) : (o.map (r :: ·)).map (done ++ ·) = o.map ((done ++ [r]) ++ ·) := by
  cases o with
  | none => rfl
  | some l => simp
end table
theorem tClone_fn {w : World} {v : Value} {l : Bs} (h : tBytes.rep All w v l) : Fn Try.prog 74 [v] w (fun r w2 => Gr w2 r l w.heap.size ∧ Ext (fun _ => False) w w2) := by
  obtain ⟨a, cap, rfl, hcap⟩ := Sl.val h
  have hlim := Sl.lim h
  simp only [Lim] at hlim
  refine Fn.enter (fun w => Try.call74 _ w) Try.func74 rfl ?_
  refine .seq (.region ?_)
  refine .p rfl rfl (.as rfl) ?_
  refine .nil (.code (.seq (.seq (.keep [(0, _)] ⟨rfl, trivial⟩ (.region ?_)))))
  refine .p rfl rfl (.mv rfl) ?_
  refine .p rfl rfl (.eqNil rfl rfl rfl) ?_
  refine .nil (.code (.keep [(4, _), (0, _)] ⟨rfl, rfl, trivial⟩ ?_))
  refine .cond rfl (fun c4 => ?_) (fun c4 => ?_)
  · refine .seq (.keep [] trivial (.region ?_))
    refine .p rfl rfl (.as rfl) ?_
    refine .nil (.code ?_)
    refine .ret _ rfl ?_
    rw [Sl.isNone0 h c4]
    exact ⟨OwnO.nil, .refl _⟩
  · refine .skip (.code (.seq (.keep [(0, _)] ⟨rfl, trivial⟩ (.region ?_))))
    refine .v rfl rfl (.lits rfl rfl (fun _ => by kernel_rfl)) ?_
    rintro _ w5 ⟨rfl, N5⟩
    refine .p rfl rfl (.mv rfl) ?_
    refine .v rfl rfl (.appendLo (t := tByte) (Q := fun _ => False) (B := fun k => w.heap.size ≤ k) (eb := 1) rfl (OwnO.ofOwn (Own.ofNew (us := []) N5 .nil (by decide) rfl rfl) (fun _ => Nat.le_refl _)) (fun k hk => by have := N5.size; show w.heap.size ≤ k; omega) rfl (Sl.holds (tBytes.ext0 h N5.ext) (fun _ _ h => h)) rfl rfl rfl rfl rfl rfl rfl (by simp; omega) (by simp [Lim]; omega) (fun _ h _ => h.elim)) ?_
    rintro v7 w7 ⟨G7, Y7⟩
    refine .p rfl rfl (.as rfl) ?_
    refine .nil (.code ?_)
    refine .ret _ rfl ?_
    exact ⟨G7, N5.ext.then Y7 (fun k hk _ => hk)⟩
set_option maxHeartbeats 4000000 in
theorem open_fn {w : World} {v : Value} {b : Bs} (h : tBytes.rep All w v b) : Fn Try.prog 46 [v] w (fun r w2 => ((openF b = none ∧ r = .tuple #[.pointer none, i64 90]) ∨ ∃ rows p, openF b = some rows ∧ r = .tuple #[.pointer (some ⟨p, 0, none⟩), i64 0] ∧ OG w2 p w.heap.size rows (sieveOf b)) ∧ Ext (fun _ => False) w w2) := by
  obtain ⟨a, cap, rfl, hcap⟩ := Sl.val h
  have hlim := Sl.lim h
  simp only [Lim] at hlim
  have h := tBytes.mono h (P' := fun k => k < w.heap.size) (fun k _ hk => hk)
  refine Fn.enter (fun w => Try.call46 _ w) Try.func46 rfl ?_
  refine .seq (.region ?_)
  refine .p rfl rfl (.as rfl) ?_
  refine .p rfl rfl (.as rfl) ?_
  refine .nil (.code (.seq (.keep [(0, _)] ⟨rfl, trivial⟩ (.region ?_))))
  refine .p rfl rfl (.as rfl) ?_
  refine .nil (.code (.seq (.seq (.mix (fun _ => False) [19, 21, 23] (by kernel_rfl) (by kernel_rfl) (by kernel_rfl) ?_))))
  refine .p rfl rfl rfl (fun wx hx => .mv rfl) ?_
  refine .p rfl rfl rfl (fun wx hx => .len rfl rfl) ?_
  refine .p rfl rfl rfl (fun wx hx => .lt rfl rfl) ?_
  refine .p rfl rfl rfl (fun wx hx => .mv rfl) ?_
  refine .caseD 32 rfl (fun c32 => ?_) (fun c32 => ?_)
  · refine .skip rfl rfl ?_
    refine .skip rfl rfl ?_
    refine .skip rfl rfl ?_
    refine .p rfl rfl rfl (fun wx hx => .pickT rfl rfl) ?_
    refine .p rfl rfl rfl (fun wx hx => .mv rfl) ?_
    refine .skip rfl rfl ?_
    refine .skip rfl rfl ?_
    refine .skip rfl rfl ?_
    refine .skip rfl rfl ?_
    refine .skip rfl rfl ?_
    refine .skip rfl rfl ?_
    refine .skip rfl rfl ?_
    refine .skip rfl rfl ?_
    refine .skip rfl rfl ?_
    refine .skip rfl rfl ?_
    refine .skip rfl rfl ?_
    refine .skip rfl rfl ?_
    refine .skip rfl rfl ?_
    refine .skip rfl rfl ?_
    refine .skip rfl rfl ?_
    refine .skip rfl rfl ?_
    refine .p rfl rfl rfl (fun wx hx => .pickT rfl rfl) ?_
    refine .nil (.code (.keep [(54, _), (4, _), (0, _)] ⟨rfl, rfl, rfl, trivial⟩ (.condT rfl (.seq (.keep [(4, _)] ⟨rfl, trivial⟩ (.region ?_))))))
    refine .p rfl rfl (.mv rfl) ?_
    refine .p rfl rfl (.as rfl) ?_
    refine .p rfl rfl (.as rfl) ?_
    refine .nil (.code ?_)
    refine .ret _ rfl ?_
    exact ⟨.inl ⟨open_bad1 (fun ho => by have := ho.1; omega), rfl⟩, .refl _⟩
  · refine .p rfl rfl rfl (fun wx hx => .mv rfl) ?_
    refine .p rfl rfl rfl (fun wx hx => .len rfl rfl) ?_
    refine .p rfl rfl rfl (fun wx hx => .gt rfl rfl) ?_
    refine .p rfl rfl rfl (fun wx hx => .pickF rfl rfl) ?_
    refine .p rfl rfl rfl (fun wx hx => .mv rfl) ?_
    refine .caseD 37 rfl (fun c37 => ?_) (fun c37 => ?_)
    · refine .skip rfl rfl ?_
      refine .skip rfl rfl ?_
      refine .skip rfl rfl ?_
      refine .skip rfl rfl ?_
      refine .skip rfl rfl ?_
      refine .skip rfl rfl ?_
      refine .skip rfl rfl ?_
      refine .skip rfl rfl ?_
      refine .skip rfl rfl ?_
      refine .skip rfl rfl ?_
      refine .skip rfl rfl ?_
      refine .skip rfl rfl ?_
      refine .skip rfl rfl ?_
      refine .skip rfl rfl ?_
      refine .skip rfl rfl ?_
      refine .skip rfl rfl ?_
      refine .p rfl rfl rfl (fun wx hx => .pickT rfl rfl) ?_
      refine .nil (.code (.keep [(54, _), (4, _), (0, _)] ⟨rfl, rfl, rfl, trivial⟩ (.condT rfl (.seq (.keep [(4, _)] ⟨rfl, trivial⟩ (.region ?_))))))
      refine .p rfl rfl (.mv rfl) ?_
      refine .p rfl rfl (.as rfl) ?_
      refine .p rfl rfl (.as rfl) ?_
      refine .nil (.code ?_)
      refine .ret _ rfl ?_
      exact ⟨.inl ⟨open_bad1 (fun ho => by have := ho.2.1; omega), rfl⟩, .refl _⟩
    · obtain ⟨a42, c42, hv42, hc42, R42⟩ := Sl.cutL h (b.length - 4) (by omega)
      obtain ⟨a47, c47, hv47, hc47, R47⟩ := Sl.cutH h (b.length - 4) (by omega)
      refine .p rfl rfl rfl (fun wx hx => .mv rfl) ?_
      refine .p rfl rfl rfl (fun wx hx => .mv rfl) ?_
      refine .p rfl rfl rfl (fun wx hx => .len rfl rfl) ?_
      refine .p rfl rfl rfl (fun wx hx => .sub rfl rfl (by omega)) ?_
      refine .p rfl rfl rfl (fun wx hx => .cast (.cutLo (s := 1) rfl rfl rfl rfl (by omega)) (show cutV 1 a cap ((b.length : Int) - 4).toNat b.length = .slice a42 (b.length - (b.length - 4)) c42 by rw [show ((b.length : Int) - 4).toNat = b.length - 4 by omega]; exact hv42)) ?_
      refine .p rfl rfl rfl (fun wx hx => .mv rfl) ?_
      refine .p rfl rfl rfl (fun wx hx => .mv rfl) ?_
      refine .p rfl rfl rfl (fun wx hx => .len rfl rfl) ?_
      refine .p rfl rfl rfl (fun wx hx => .sub rfl rfl (by omega)) ?_
      refine .p rfl rfl rfl (fun wx hx => .cast (.cutHi (s := 1) rfl rfl rfl rfl (by omega)) (show cutV 1 a cap 0 ((b.length : Int) - 4).toNat = .slice a47 (b.length - 4) c47 by rw [show ((b.length : Int) - 4).toNat = b.length - 4 by omega]; exact hv47)) ?_
      refine .call (first := []) (captured := []) rfl rfl rfl rfl rfl (Sum_fn (tBytes.mono R47 (fun _ _ _ => trivial))) (by rintro _ _ ⟨_, hx⟩; exact hx) ?_
      rintro _ w48 ⟨rfl, X48⟩
      have hlt := (crc (b.take (b.length - 4))).toNat_lt
      refine .p rfl rfl rfl (fun wx hx => .conv32_U rfl rfl rfl) ?_
      refine .call (first := []) (captured := []) rfl rfl rfl rfl rfl (Put_fn (n := (crc (b.take (b.length - 4))).toNat) (by omega)) (by rintro _ _ ⟨_, hx⟩; exact X48.trans hx) ?_
      rintro r50 w50 ⟨R50, X50⟩
      obtain ⟨a50, c50, rfl, hc50⟩ := Sl.val R50
      rw [put8_length] at R50 hc50
      obtain ⟨a51, c51, hv51, hc51, R51⟩ := Sl.cutH R50 4 (by omega)
      rw [put8_length]
      have R51 : tBytes.rep All w50 _ (sum4 (b.take (b.length - 4))) := tBytes.mono R51 (fun _ _ _ => trivial)
      refine .p rfl rfl rfl (fun wx hx => .cast (.cutHi (s := 1) rfl rfl rfl rfl (by omega)) (show cutV 1 a50 c50 0 (4 : Int).toNat = _ from hv51)) ?_
      refine .call (first := []) (captured := []) rfl rfl rfl rfl rfl (bytesEqual_fn (tBytes.ext0 (tBytes.mono R42 (fun _ _ _ => trivial)) (X48.trans X50)) R51) (by rintro _ _ ⟨_, hx⟩; exact (X48.trans X50).trans hx) ?_
      rintro _ w52 ⟨rfl, X52⟩
      have Z52 := (X48.trans X50).trans X52
      refine .p rfl rfl rfl (fun wx hx => .notD rfl) ?_
      refine .p rfl rfl rfl (fun wx hx => .pickF rfl rfl) ?_
      refine .nil (.code (.keep [(54, _), (4, _), (0, _)] ⟨rfl, rfl, rfl, trivial⟩ ?_))
      refine .condD rfl (fun c54 => ?_) (fun c54 => ?_)
      · refine .seq (.keep [(4, _)] ⟨rfl, trivial⟩ (.region ?_))
        refine .p rfl rfl (.mv rfl) ?_
        refine .p rfl rfl (.as rfl) ?_
        refine .p rfl rfl (.as rfl) ?_
        refine .nil (.code ?_)
        refine .ret _ rfl ?_
        exact ⟨.inl ⟨open_bad1 (fun ho => c54 ho.2.2), rfl⟩, Z52⟩
      · have hs : okSum b := ⟨by omega, by omega, Decidable.not_not.1 c54⟩
        obtain ⟨a60, c60, hv60, hc60, R60⟩ := Sl.cutH h (b.length - 28) (by omega)
        obtain ⟨a65, c65, hv65, hc65, R65⟩ := Sl.cutL h (b.length - 28) (by omega)
        have R60 : tBytes.rep (fun k => k < w.heap.size) w (.slice a60 (b.length - 28) c60) (inB b) := R60
        have R65 : tBytes.rep (fun k => k < w.heap.size) w (.slice a65 (b.length - (b.length - 28)) c65) (endB b) := R65
        have hin := Sl.len R60
        obtain ⟨a68, c68, hv68, hc68, R68⟩ := Sl.cutH R65 8 (by omega)
        obtain ⟨a74, c74, hv74, hc74, R74⟩ := Sl.cutE R65 8 16 (by omega) (by omega)
        refine .skip (.code (.seq (.keep [(4, _), (0, _)] ⟨rfl, rfl, trivial⟩ (.draws (by kernel_rfl) (by kernel_rfl) ?_))))
        refine .p rfl rfl (.mv rfl) ?_
        refine .p rfl rfl (.mv rfl) ?_
        refine .p rfl rfl (.len rfl rfl) ?_
        refine .p rfl rfl (.sub rfl rfl (by omega)) ?_
        refine .p rfl rfl (.cast (.cutHi (s := 1) rfl rfl rfl rfl (by omega)) (show cutV 1 a cap 0 ((b.length : Int) - 28).toNat = .slice a60 (b.length - 28) c60 by rw [show ((b.length : Int) - 28).toNat = b.length - 28 by omega]; exact hv60)) ?_
        refine .p rfl rfl (.mv rfl) ?_
        refine .p rfl rfl (.mv rfl) ?_
        refine .p rfl rfl (.len rfl rfl) ?_
        refine .p rfl rfl (.sub rfl rfl (by omega)) ?_
        refine .p rfl rfl (.cast (.cutLo (s := 1) rfl rfl rfl rfl (by omega)) (show cutV 1 a cap ((b.length : Int) - 28).toNat b.length = .slice a65 (b.length - (b.length - 28)) c65 by rw [show ((b.length : Int) - 28).toNat = b.length - 28 by omega]; exact hv65)) ?_
        refine .p rfl rfl (.as rfl) ?_
        refine .p rfl rfl (.as rfl) ?_
        refine .nil (.code (.seq (.keep [(6, _), (5, _), (4, _), (0, _)] ⟨rfl, rfl, rfl, rfl, trivial⟩ (.region ?_))))
        refine .p rfl rfl (.mv rfl) ?_
        refine .p rfl rfl (.cast (.cutHi (s := 1) rfl rfl rfl rfl (by omega)) (show cutV 1 a65 c65 0 (8 : Int).toNat = _ from hv68)) ?_
        refine .call (first := []) (captured := []) rfl rfl rfl rfl (Get_fn (tBytes.mono (tBytes.ext0 R68 Z52) (fun _ _ _ => trivial))) ?_
        rintro _ w69 ⟨rfl, X69⟩
        rw [show (if ((endB b).take 8).length = 8 then getTo ((endB b).take 8) 8 else 0) = nB b from rfl]
        refine .p rfl rfl (.mv rfl) ?_
        refine .p rfl rfl (.extract rfl rfl) ?_
        refine .p rfl rfl (.extract rfl rfl) ?_
        refine .p rfl rfl (.as rfl) ?_
        refine .p rfl rfl (.as rfl) ?_
        refine .nil (.code (.seq (.keep [(7, _), (6, _), (5, _), (4, _), (0, _)] ⟨rfl, rfl, rfl, rfl, rfl, trivial⟩ (.region ?_))))
        refine .p rfl rfl (.mv rfl) ?_
        refine .p rfl rfl (.cast (.cut (s := 1) rfl rfl rfl rfl rfl (by omega)) (show cutV 1 a65 c65 (8 : Int).toNat (16 : Int).toNat = _ from hv74)) ?_
        refine .call (first := []) (captured := []) rfl rfl rfl rfl (Get_fn (tBytes.mono (tBytes.ext0 R74 (Z52.trans X69)) (fun _ _ _ => trivial))) ?_
        rintro _ w75 ⟨rfl, X75⟩
        rw [show (if (((endB b).take 16).drop 8).length = 8 then getTo (((endB b).take 16).drop 8) 8 else 0) = kB b from rfl]
        have Z75 := (Z52.trans X69).trans X75
        have hnb := get8_bd ((endB b).take 8)
        have hkb := get8_bd (((endB b).take 16).drop 8)
        have hnb : nB b < 18446744073709551616 := hnb
        have hkb : kB b < 18446744073709551616 := hkb
        refine .p rfl rfl (.mv rfl) ?_
        refine .p rfl rfl (.extract rfl rfl) ?_
        refine .p rfl rfl (.extract rfl rfl) ?_
        refine .p rfl rfl (.as rfl) ?_
        refine .p rfl rfl (.as rfl) ?_
        refine .nil (.code (.seq (.seq (.keep [(9, _), (7, _), (5, _), (4, _), (0, _)] ⟨rfl, rfl, rfl, rfl, rfl, trivial⟩ (.region ?_)))))
        refine .p rfl rfl (.mv rfl) ?_
        refine .p rfl rfl (.mv rfl) ?_
        refine .p rfl rfl (.len rfl rfl) ?_
        refine .p rfl rfl (.convU rfl rfl rfl (by omega)) ?_
        refine .p rfl rfl (.gt rfl rfl) ?_
        refine .p rfl rfl (.mv rfl) ?_
        refine .caseD 83 rfl (fun c83 => ?_) (fun c83 => ?_)
        · refine .skip rfl rfl ?_
          refine .skip rfl rfl ?_
          refine .skip rfl rfl ?_
          refine .skip rfl rfl ?_
          refine .skip rfl rfl ?_
          refine .skip rfl rfl ?_
          refine .skip rfl rfl ?_
          refine .p rfl rfl (.pickT rfl rfl) ?_
          refine .nil (.code (.keep [(91, _), (9, _), (7, _), (5, _), (4, _), (0, _)] ⟨rfl, rfl, rfl, rfl, rfl, rfl, trivial⟩ (.condT rfl (.seq (.keep [(4, _)] ⟨rfl, trivial⟩ (.region ?_))))))
          refine .p rfl rfl (.mv rfl) ?_
          refine .p rfl rfl (.as rfl) ?_
          refine .p rfl rfl (.as rfl) ?_
          refine .nil (.code ?_)
          refine .ret _ rfl ?_
          exact ⟨.inl ⟨open_bad2 (.inl (by omega)), rfl⟩, Z75⟩
        · refine .p rfl rfl (.mv rfl) ?_
          refine .p rfl rfl (.mv rfl) ?_
          refine .p rfl rfl (.len rfl rfl) ?_
          refine .p rfl rfl (.convU rfl rfl rfl (by omega)) ?_
          refine .p rfl rfl (.mv rfl) ?_
          refine .p rfl rfl (.subU rfl rfl (by omega)) ?_
          refine .p rfl rfl (.gt rfl rfl) ?_
          refine .p rfl rfl (.pickF rfl rfl) ?_
          refine .nil (.code (.keep [(91, _), (9, _), (7, _), (5, _), (4, _), (0, _)] ⟨rfl, rfl, rfl, rfl, rfl, rfl, trivial⟩ ?_))
          refine .condD rfl (fun c91 => ?_) (fun c91 => ?_)
          · refine .seq (.keep [(4, _)] ⟨rfl, trivial⟩ (.region ?_))
            refine .p rfl rfl (.mv rfl) ?_
            refine .p rfl rfl (.as rfl) ?_
            refine .p rfl rfl (.as rfl) ?_
            refine .nil (.code ?_)
            refine .ret _ rfl ?_
            exact ⟨.inl ⟨open_bad2 (.inr (by omega)), rfl⟩, Z75⟩
          · have hnk : ¬ ((inB b).length < nB b ∨ (inB b).length - nB b < kB b) := by omega
            have hidx := idxB_length hnk
            obtain ⟨a97, c97, hv97, hc97, R97⟩ := Sl.cutL R60 (nB b + kB b) (by omega)
            obtain ⟨a103, c103, hv103, hc103, R103⟩ := Sl.cutH R60 (nB b) (by omega)
            obtain ⟨a109, c109, hv109, hc109, R109⟩ := Sl.cutE R60 (nB b) (nB b + kB b) (by omega) (by omega)
            rw [Nat.add_sub_cancel_left] at hv109 hc109 R109
            have R109 : tBytes.rep (fun k => k < w.heap.size) w (.slice a109 (kB b) c109) (idxB b) := R109
            have R103 : tBytes.rep (fun k => k < w.heap.size) w (.slice a103 (nB b) c103) (allB b) := R103
            refine .skip (.code (.seq (.keep [(9, _), (7, _), (5, _), (4, _), (0, _)] ⟨rfl, rfl, rfl, rfl, rfl, trivial⟩ (.region ?_))))
            refine .p rfl rfl (.mv rfl) ?_
            refine .p rfl rfl (.mv rfl) ?_
            refine .p rfl rfl (.mv rfl) ?_
            refine .p rfl rfl (.addU rfl rfl (by omega)) ?_
            refine .p rfl rfl (.cast (.cutLo (s := 1) rfl rfl rfl rfl (by omega)) (show cutV 1 a60 c60 ((nB b : Int) + (kB b : Int)).toNat (b.length - 28) = .slice a97 (b.length - 28 - (nB b + kB b)) c97 by rw [show ((nB b : Int) + (kB b : Int)).toNat = nB b + kB b by omega]; exact hv97)) ?_
            refine .call (first := []) (captured := []) rfl rfl rfl rfl (tClone_fn (tBytes.mono (tBytes.ext0 R97 Z75) (fun _ _ _ => trivial))) ?_
            rintro r98 w98 ⟨G98, X98⟩
            obtain ⟨a98, c98, rfl, hc98⟩ := OwnO.val G98
            have G98 : Gr w98 (.slice a98 (sieveOf b).length c98) (sieveOf b) w75.heap.size := G98
            have Z98 := Z75.trans X98
            have z98 := Z98.size
            have z75 := Z75.size
            refine .p rfl rfl (.build (cs := [.slice none 0 0, .slice none 0 0, .slice none 0 0, .slice a98 (sieveOf b).length c98, .slice none 0 0]) rfl (fun _ => by kernel_rfl)) ?_
            refine .v rfl rfl (.box rfl) ?_
            rintro _ w100 ⟨rfl, N100⟩
            have z100 := N100.size
            have Z100 := Z98.trans N100.ext
            obtain ⟨c0, hc0⟩ : ∃ c0 : Nat → Nat, c0 = fun k => if k < w.heap.size then 5 else if k < w98.heap.size then 6 else 0 := ⟨_, rfl⟩
            have h05 : ∀ k, k < w.heap.size → c0 k = 5 := fun k hk => by rw [hc0]; exact if_pos hk
            have h06 : ∀ k, w.heap.size ≤ k → k < w98.heap.size → c0 k = 6 := fun k h1 h2 => by rw [hc0]; show (if k < w.heap.size then _ else _) = _; rw [if_neg (by omega), if_pos h2]
            have h00 : c0 w98.heap.size = 0 := by rw [hc0]; show (if w98.heap.size < w.heap.size then _ else _) = _; rw [if_neg (by omega), if_neg (by omega)]
            have RG0 : RG w100 w98.heap.size c0 w.heap.size [] (sieveOf b) := ⟨_, _, _, _, _, N100.blk, .inl ⟨rfl, rfl⟩, .inl ⟨rfl, rfl⟩, .inl ⟨rfl, rfl⟩, tBytes.ext0 (tBytes.mono (Gr.rep' G98) (fun k hk _ => h06 k (by omega) hk.2)) N100.ext, .inl ⟨rfl, rfl⟩, h00, h05, by omega⟩
            refine .p rfl rfl (.as rfl) ?_
            refine .nil (.code (.seq (.keep [(11, _), (9, _), (7, _), (5, _), (4, _), (0, _)] ⟨rfl, rfl, rfl, rfl, rfl, rfl, trivial⟩ (.draws (by kernel_rfl) (by kernel_rfl) ?_))))
            refine .p rfl rfl (.mv rfl) ?_
            refine .p rfl rfl (.mv rfl) ?_
            refine .p rfl rfl (.cast (.cutHi (s := 1) rfl rfl rfl rfl (by omega)) (show cutV 1 a60 c60 0 ((nB b : Nat) : Int).toNat = _ from hv103)) ?_
            refine .p rfl rfl (.mv rfl) ?_
            refine .p rfl rfl (.mv rfl) ?_
            refine .p rfl rfl (.mv rfl) ?_
            refine .p rfl rfl (.mv rfl) ?_
            refine .p rfl rfl (.addU rfl rfl (by omega)) ?_
            refine .p rfl rfl (.cast (.cut (s := 1) rfl rfl rfl rfl rfl (by omega)) (show cutV 1 a60 c60 ((nB b : Nat) : Int).toNat ((nB b : Int) + (kB b : Int)).toNat = .slice a109 (kB b) c109 by rw [show ((nB b : Int) + (kB b : Int)).toNat = nB b + kB b by omega]; exact hv109)) ?_
            refine .p rfl rfl (.as rfl) ?_
            refine .p rfl rfl (.as rfl) ?_
            refine .nil (.code (.seq (.keep [(13, _), (12, _), (11, _), (4, _), (0, _)] ⟨rfl, rfl, rfl, rfl, rfl, trivial⟩ (.region ?_))))
            refine .p rfl rfl (.mv rfl) ?_
            refine .call (first := []) (captured := []) rfl rfl rfl rfl (Read_fn (tBytes.mono (tBytes.ext0 R109 Z100) (fun _ _ _ => trivial))) ?_
            rintro _ w112 ⟨rfl, X112⟩
            obtain ⟨hr1, hr2⟩ := readF_bd (idxB b)
            rw [hidx] at hr2
            have Z112 := Z100.trans X112
            have z112 := X112.size
            refine .p rfl rfl (.mv rfl) ?_
            refine .p rfl rfl (.extract rfl rfl) ?_
            refine .p rfl rfl (.extract rfl rfl) ?_
            refine .p rfl rfl (.extract rfl rfl) ?_
            refine .p rfl rfl (.as rfl) ?_
            refine .p rfl rfl (.as rfl) ?_
            refine .p rfl rfl (.as rfl) ?_
            refine .nil (.code (.seq (.seq (.keep [(16, _), (15, _), (14, _), (13, _), (12, _), (11, _), (4, _), (0, _)] ⟨rfl, rfl, rfl, rfl, rfl, rfl, rfl, rfl, trivial⟩ (.region ?_)))))
            refine .p rfl rfl (.mv rfl) ?_
            refine .p rfl rfl (.ne rfl rfl) ?_
            refine .nil (.code (.keep [(117, _), (15, _), (14, _), (13, _), (12, _), (11, _), (4, _), (0, _)] ⟨rfl, rfl, rfl, rfl, rfl, rfl, rfl, rfl, trivial⟩ ?_))
            refine .condD rfl (fun c117 => ?_) (fun c117 => ?_)
            · refine .seq (.keep [(4, _)] ⟨rfl, trivial⟩ (.region ?_))
              refine .p rfl rfl (.mv rfl) ?_
              refine .p rfl rfl (.as rfl) ?_
              refine .p rfl rfl (.as rfl) ?_
              refine .nil (.code ?_)
              refine .ret _ rfl ?_
              exact ⟨.inl ⟨open_bad3 c117, rfl⟩, Z112⟩
            · have h3 : (readF (idxB b)).2.2 = 0 := Decidable.not_not.1 c117
              obtain ⟨a121, c121, hv121, hc121, R121⟩ := Sl.cutL R109 (readF (idxB b)).2.1 hr2
              refine .skip (.code (.seq (.keep [(15, _), (14, _), (13, _), (12, _), (11, _), (4, _), (0, _)] ⟨rfl, rfl, rfl, rfl, rfl, rfl, rfl, trivial⟩ (.region ?_))))
              refine .p rfl rfl (.mv rfl) ?_
              refine .p rfl rfl (.mv rfl) ?_
              refine .p rfl rfl (.cast (.cutLo (s := 1) rfl rfl rfl rfl (by omega)) (show cutV 1 a109 c109 (((readF (idxB b)).2.1 : Nat) : Int).toNat (kB b) = _ from hv121)) ?_
              refine .p rfl rfl (.as rfl) ?_
              refine .nil (.code (.seq (.seq (.keep [(13, _), (14, _), (12, _), (11, _), (4, _), (0, _)] ⟨rfl, rfl, rfl, rfl, rfl, rfl, trivial⟩ (.region ?_)))))
              refine .p rfl rfl (.mv rfl) ?_
              refine .p rfl rfl (.mv rfl) ?_
              refine .p rfl rfl (.len rfl rfl) ?_
              refine .p rfl rfl (.convU rfl rfl rfl (by omega)) ?_
              refine .p rfl rfl (.cast (.min2 rfl rfl) (show _ = Value.int .u64 ((manyR b : Nat) : Int) by unfold manyR; congr 1; omega)) ?_
              refine .p rfl rfl (.mv rfl) ?_
              refine .nil (.code (.block (.keep [(127, _), (126, _), (13, _), (12, _), (11, _), (4, _), (0, _)] ⟨rfl, rfl, rfl, rfl, rfl, rfl, rfl, trivial⟩ ?_)))
              refine .loop (S := Nat × List Row × Bs × Bs × Value × Value × (Nat → Nat) × World) (fun s => [(0, .slice a b.length cap), (4, i64 90), (11, .pointer (some ⟨w98.heap.size, 0, none⟩)), (12, s.2.2.2.2.1), (13, s.2.2.2.2.2.1), (126, .int .u64 ((manyR b : Nat) : Int)), (127, .int .u64 ((s.1 : Nat) : Int))]) (fun s => s.2.2.2.2.2.2.2) (fun s => s.1 ≤ manyR b ∧ rowsB b = (rowsF (manyR b - s.1) s.2.2.1 s.2.2.2.1).map (s.2.1 ++ ·) ∧ s.2.1.length = s.1 ∧ (entsR s.2.1).length ≤ s.1 * 4096 ∧ s.2.2.1.length ≤ b.length ∧ tBytes.rep (fun k => k < w.heap.size) s.2.2.2.2.2.2.2 s.2.2.2.2.1 s.2.2.1 ∧ tBytes.rep (fun k => s.2.2.2.2.2.2.1 k = 5 ∨ s.2.2.2.2.2.2.1 k = 8) s.2.2.2.2.2.2.2 s.2.2.2.2.2.1 s.2.2.2.1 ∧ RG s.2.2.2.2.2.2.2 w98.heap.size s.2.2.2.2.2.2.1 w.heap.size s.2.1 (sieveOf b) ∧ Ext (fun _ => False) w s.2.2.2.2.2.2.2) (fun s => manyR b - s.1) (0, [], allB b, (idxB b).drop (readF (idxB b)).2.1, _, _, c0, w112) ⟨rfl, rfl, rfl, rfl, rfl, rfl, rfl, trivial⟩ rfl ⟨Nat.zero_le _, by show rowsB b = (rowsF (manyR b) _ _).map ([] ++ ·); unfold rowsB; cases rowsF (manyR b) (allB b) ((idxB b).drop (readF (idxB b)).2.1) <;> rfl, rfl, Nat.zero_le _, by show (allB b).length ≤ _; have := Sl.len R103; omega, tBytes.ext0 R103 Z112, tBytes.ext0 (tBytes.mono R121 (fun k hk _ => .inl (h05 k hk))) Z112, RGx RG0 X112, Z112⟩ ?_
              rintro ⟨i, done, all, idx, v12, v13, c, wi⟩ J ⟨hi', hrw, hdl, hel, hal, hA, hI, hRG, hX⟩ again
              simp only at hi' hrw hdl hel hal hA hI hRG hX
              have zwi := hX.size
              change G _ [(0, .slice a b.length cap), (4, i64 90), (11, .pointer (some ⟨w98.heap.size, 0, none⟩)), (12, v12), (13, v13), (126, .int .u64 ((manyR b : Nat) : Int)), (127, .int .u64 ((i : Nat) : Int))] _ _ wi
              refine .seq (.region ?_)
              refine .p rfl rfl (.lt rfl rfl) ?_
              refine .nil (.code (.seq ?_))
              refine .condD rfl (fun c128 => ?_) (fun c128 => ?_)
              · have hi : i < manyR b := by omega
                obtain ⟨a12, c12, rfl, hc12⟩ := Sl.val hA
                obtain ⟨a13, c13, rfl, hc13⟩ := Sl.val hI
                have hm : manyR b - i = (manyR b - (i + 1)) + 1 := by omega
                rw [hm] at hrw
                obtain ⟨hb1, hb2⟩ := readF_bd (cutF (cutF idx).2.1).2.1
                have hb0 := Sl.lim hI
                simp only [Lim] at hb0
                have hcl1 := cutF_le idx
                have hcl2 := cutF_le (cutF idx).2.1
                refine .skip (.code (.seq (.block (.seq (.keep [(0, _), (4, _), (11, _), (12, _), (13, _), (126, _), (127, _)] ⟨rfl, rfl, rfl, rfl, rfl, rfl, rfl, trivial⟩ (.region ?_))))))
                refine .p rfl rfl (.mv rfl) ?_
                refine .call (first := []) (captured := []) rfl rfl rfl rfl (Cut_fn (tBytes.mono hI (fun _ _ _ => trivial))) ?_
                rintro _ w131 ⟨v131, rfl, G131, X131⟩
                have z131 := X131.size
                refine .p rfl rfl (.mv rfl) ?_
                refine .p rfl rfl (.extract rfl rfl) ?_
                refine .p rfl rfl (.extract rfl rfl) ?_
                refine .p rfl rfl (.extract rfl rfl) ?_
                refine .p rfl rfl (.as rfl) ?_
                refine .p rfl rfl (.as rfl) ?_
                refine .p rfl rfl (.as rfl) ?_
                refine .nil (.code (.seq (.keep [(19, _), (18, _), (17, _), (0, _), (4, _), (11, _), (12, _), (126, _), (127, _)] ⟨rfl, rfl, rfl, rfl, rfl, rfl, rfl, rfl, rfl, trivial⟩ (.region ?_))))
                refine .p rfl rfl (.mv rfl) ?_
                refine .call (first := []) (captured := []) rfl rfl rfl rfl (Cut_fn (Gr.rep G131)) ?_
                rintro _ w137 ⟨v137, rfl, G137, X137⟩
                obtain ⟨a137, c137, rfl, hc137⟩ := OwnO.val G137
                have z137 := X137.size
                refine .p rfl rfl (.mv rfl) ?_
                refine .p rfl rfl (.extract rfl rfl) ?_
                refine .p rfl rfl (.extract rfl rfl) ?_
                refine .p rfl rfl (.extract rfl rfl) ?_
                refine .p rfl rfl (.as rfl) ?_
                refine .p rfl rfl (.as rfl) ?_
                refine .p rfl rfl (.as rfl) ?_
                refine .nil (.code (.seq (.keep [(21, _), (18, _), (20, _), (19, _), (17, _), (0, _), (4, _), (11, _), (12, _), (126, _), (127, _)] ⟨rfl, rfl, rfl, rfl, rfl, rfl, rfl, rfl, rfl, rfl, rfl, trivial⟩ (.region ?_))))
                refine .p rfl rfl (.mv rfl) ?_
                refine .call (first := []) (captured := []) rfl rfl rfl rfl (Read_fn (Gr.rep G137)) ?_
                rintro _ w143 ⟨rfl, X143⟩
                have z143 := X143.size
                refine .p rfl rfl (.mv rfl) ?_
                refine .p rfl rfl (.extract rfl rfl) ?_
                refine .p rfl rfl (.extract rfl rfl) ?_
                refine .p rfl rfl (.extract rfl rfl) ?_
                refine .p rfl rfl (.as rfl) ?_
                refine .p rfl rfl (.as rfl) ?_
                refine .p rfl rfl (.as rfl) ?_
                refine .nil (.code (.seq (.seq (.keep [(24, _), (23, _), (22, _), (21, _), (18, _), (20, _), (19, _), (17, _), (0, _), (4, _), (11, _), (12, _), (126, _), (127, _)] ⟨rfl, rfl, rfl, rfl, rfl, rfl, rfl, rfl, rfl, rfl, rfl, rfl, rfl, rfl, trivial⟩ (.region ?_)))))
                refine .p rfl rfl (.mv rfl) ?_
                refine .p rfl rfl (.ne rfl rfl) ?_
                refine .p rfl rfl (.mv rfl) ?_
                refine .caseD 149 rfl (fun c149 => ?_) (fun c149 => ?_)
                · refine .skip rfl rfl ?_
                  refine .skip rfl rfl ?_
                  refine .p rfl rfl (.pickT rfl rfl) ?_
                  refine .p rfl rfl (.mv rfl) ?_
                  refine .skip rfl rfl ?_
                  refine .skip rfl rfl ?_
                  refine .p rfl rfl (.pickT rfl rfl) ?_
                  refine .p rfl rfl (.mv rfl) ?_
                  refine .skip rfl rfl ?_
                  refine .skip rfl rfl ?_
                  refine .skip rfl rfl ?_
                  refine .skip rfl rfl ?_
                  refine .skip rfl rfl ?_
                  refine .p rfl rfl (.pickT rfl rfl) ?_
                  refine .nil (.code (.keep [(163, _), (23, _), (22, _), (18, _), (20, _), (17, _), (0, _), (4, _), (11, _), (12, _), (126, _), (127, _)] ⟨rfl, rfl, rfl, rfl, rfl, rfl, rfl, rfl, rfl, rfl, rfl, rfl, trivial⟩ (.condT rfl (.seq (.keep [(4, _)] ⟨rfl, trivial⟩ (.region ?_))))))
                  refine .p rfl rfl (.mv rfl) ?_
                  refine .p rfl rfl (.as rfl) ?_
                  refine .p rfl rfl (.as rfl) ?_
                  refine .nil (.code ?_)
                  refine .ret _ rfl ?_
                  exact ⟨.inl ⟨open_bad4 (by rw [hrw, rowsF_bad1 (.inl c149)]; rfl), rfl⟩, ((hX.trans X131).trans X137).trans X143⟩
                · refine .p rfl rfl (.mv rfl) ?_
                  refine .p rfl rfl (.ne rfl rfl) ?_
                  refine .p rfl rfl (.pickF rfl rfl) ?_
                  refine .p rfl rfl (.mv rfl) ?_
                  refine .caseD 153 rfl (fun c153 => ?_) (fun c153 => ?_)
                  · refine .skip rfl rfl ?_
                    refine .skip rfl rfl ?_
                    refine .p rfl rfl (.pickT rfl rfl) ?_
                    refine .p rfl rfl (.mv rfl) ?_
                    refine .skip rfl rfl ?_
                    refine .skip rfl rfl ?_
                    refine .skip rfl rfl ?_
                    refine .skip rfl rfl ?_
                    refine .skip rfl rfl ?_
                    refine .p rfl rfl (.pickT rfl rfl) ?_
                    refine .nil (.code (.keep [(163, _), (23, _), (22, _), (18, _), (20, _), (17, _), (0, _), (4, _), (11, _), (12, _), (126, _), (127, _)] ⟨rfl, rfl, rfl, rfl, rfl, rfl, rfl, rfl, rfl, rfl, rfl, rfl, trivial⟩ (.condT rfl (.seq (.keep [(4, _)] ⟨rfl, trivial⟩ (.region ?_))))))
                    refine .p rfl rfl (.mv rfl) ?_
                    refine .p rfl rfl (.as rfl) ?_
                    refine .p rfl rfl (.as rfl) ?_
                    refine .nil (.code ?_)
                    refine .ret _ rfl ?_
                    exact ⟨.inl ⟨open_bad4 (by rw [hrw, rowsF_bad1 (.inr (.inl c153))]; rfl), rfl⟩, ((hX.trans X131).trans X137).trans X143⟩
                  · refine .p rfl rfl (.mv rfl) ?_
                    refine .p rfl rfl (.ne rfl rfl) ?_
                    refine .p rfl rfl (.pickF rfl rfl) ?_
                    refine .p rfl rfl (.mv rfl) ?_
                    refine .caseD 157 rfl (fun c157 => ?_) (fun c157 => ?_)
                    · refine .skip rfl rfl ?_
                      refine .skip rfl rfl ?_
                      refine .skip rfl rfl ?_
                      refine .skip rfl rfl ?_
                      refine .skip rfl rfl ?_
                      refine .p rfl rfl (.pickT rfl rfl) ?_
                      refine .nil (.code (.keep [(163, _), (23, _), (22, _), (18, _), (20, _), (17, _), (0, _), (4, _), (11, _), (12, _), (126, _), (127, _)] ⟨rfl, rfl, rfl, rfl, rfl, rfl, rfl, rfl, rfl, rfl, rfl, rfl, trivial⟩ (.condT rfl (.seq (.keep [(4, _)] ⟨rfl, trivial⟩ (.region ?_))))))
                      refine .p rfl rfl (.mv rfl) ?_
                      refine .p rfl rfl (.as rfl) ?_
                      refine .p rfl rfl (.as rfl) ?_
                      refine .nil (.code ?_)
                      refine .ret _ rfl ?_
                      exact ⟨.inl ⟨open_bad4 (by rw [hrw, rowsF_bad1 (.inr (.inr (.inl c157)))]; rfl), rfl⟩, ((hX.trans X131).trans X137).trans X143⟩
                    · refine .p rfl rfl (.mv rfl) ?_
                      refine .p rfl rfl (.mv rfl) ?_
                      refine .p rfl rfl (.len rfl rfl) ?_
                      refine .p rfl rfl (.convU rfl rfl rfl (by omega)) ?_
                      refine .p rfl rfl (.gt rfl rfl) ?_
                      refine .p rfl rfl (.pickF rfl rfl) ?_
                      refine .nil (.code (.keep [(163, _), (23, _), (22, _), (18, _), (20, _), (17, _), (0, _), (4, _), (11, _), (12, _), (126, _), (127, _)] ⟨rfl, rfl, rfl, rfl, rfl, rfl, rfl, rfl, rfl, rfl, rfl, rfl, trivial⟩ ?_))
                      refine .condD rfl (fun c163 => ?_) (fun c163 => ?_)
                      · refine .seq (.keep [(4, _)] ⟨rfl, trivial⟩ (.region ?_))
                        refine .p rfl rfl (.mv rfl) ?_
                        refine .p rfl rfl (.as rfl) ?_
                        refine .p rfl rfl (.as rfl) ?_
                        refine .nil (.code ?_)
                        refine .ret _ rfl ?_
                        exact ⟨.inl ⟨open_bad4 (by rw [hrw, rowsF_bad1 (.inr (.inr (.inr (by omega))))]; rfl), rfl⟩, ((hX.trans X131).trans X137).trans X143⟩
                      · have hnbr : ¬ badRow all idx := by
                          rintro (x | x | x | x)
                          · exact c149 x
                          · exact c153 x
                          · exact c157 x
                          · omega
                        have hsz : sizeR idx ≤ all.length := by unfold sizeR; omega
                        obtain ⟨a168, c168, hv168, hc168, R168⟩ := Sl.cutH hA (sizeR idx) hsz
                        obtain ⟨a224, c224, hv224, hc224, R224⟩ := Sl.cutL hA (sizeR idx) hsz
                        obtain ⟨a227, c227, hv227, hc227, R227⟩ := Sl.cutL (Gr.rep' G137) (readF (cutF (cutF idx).2.1).2.1).2.1 hb2
                        refine .skip (.code (.seq (.keep [(23, _), (22, _), (18, _), (20, _), (17, _), (0, _), (4, _), (11, _), (12, _), (126, _), (127, _)] ⟨rfl, rfl, rfl, rfl, rfl, rfl, rfl, rfl, rfl, rfl, rfl, trivial⟩ (.region ?_))))
                        refine .p rfl rfl (.mv rfl) ?_
                        refine .p rfl rfl (.mv rfl) ?_
                        refine .p rfl rfl (.cast (.cutHi (s := 1) rfl rfl rfl rfl (by omega)) (show cutV 1 a12 c12 0 (((readF (cutF (cutF idx).2.1).2.1).1 : Nat) : Int).toNat = _ from hv168)) ?_
                        refine .call (first := []) (captured := []) rfl rfl rfl rfl (PRead_fn (tBytes.mono (tBytes.ext0 R168 ((X131.trans X137).trans X143)) (fun _ _ _ => trivial))) ?_
                        rintro _ w169 ⟨v169, rfl, O169, X169⟩
                        obtain ⟨a169, c169, rfl, hc169⟩ := OwnO.val O169
                        have z169 := X169.size
                        have Xi := ((X131.trans X137).trans X143).trans X169
                        refine .p rfl rfl (.mv rfl) ?_
                        refine .p rfl rfl (.extract rfl rfl) ?_
                        refine .p rfl rfl (.extract rfl rfl) ?_
                        refine .p rfl rfl (.as rfl) ?_
                        refine .p rfl rfl (.as rfl) ?_
                        refine .nil (.code (.seq (.seq (.keep [(26, _), (25, _), (23, _), (22, _), (18, _), (20, _), (17, _), (0, _), (4, _), (11, _), (12, _), (126, _), (127, _)] ⟨rfl, rfl, rfl, rfl, rfl, rfl, rfl, rfl, rfl, rfl, rfl, rfl, rfl, trivial⟩ (.region ?_)))))
                        refine .p rfl rfl (.mv rfl) ?_
                        refine .p rfl rfl (.ne rfl rfl) ?_
                        refine .nil (.code (.keep [(173, _), (25, _), (23, _), (22, _), (18, _), (20, _), (17, _), (0, _), (4, _), (11, _), (12, _), (126, _), (127, _)] ⟨rfl, rfl, rfl, rfl, rfl, rfl, rfl, rfl, rfl, rfl, rfl, rfl, rfl, trivial⟩ ?_))
                        refine .condD rfl (fun c173 => ?_) (fun c173 => ?_)
                        · refine .seq (.keep [(4, _)] ⟨rfl, trivial⟩ (.region ?_))
                          refine .p rfl rfl (.mv rfl) ?_
                          refine .p rfl rfl (.as rfl) ?_
                          refine .p rfl rfl (.as rfl) ?_
                          refine .nil (.code ?_)
                          refine .ret _ rfl ?_
                          exact ⟨.inl ⟨open_bad4 (by rw [hrw, rowsF_bad2 c173]; rfl), rfl⟩, hX.trans Xi⟩
                        · have hre : (readE (all.take (sizeR idx))).2 = 0 := Decidable.not_not.1 c173
                          rw [rowsF_step hnbr hre, map_snoc] at hrw
                          have hfew := readE_few hre
                          obtain ⟨v1, v2, v3, v4, v5, Bp, O1, O2, O3, R4, O5, hp0, hlo, hlo2⟩ := hRG
                          have hlp := Bp.lt
                          obtain ⟨c1, hc1⟩ : ∃ c1 : Nat → Nat, c1 = fun k => if k < wi.heap.size then c k else 8 := ⟨_, rfl⟩
                          have hca : ∀ k, k < wi.heap.size → c1 k = c k := fun k hk => by rw [hc1]; exact if_pos hk
                          have hcb : ∀ k, wi.heap.size ≤ k → c1 k = 8 := fun k hk => by rw [hc1]; exact if_neg (by omega)
                          have hp1 : c1 w98.heap.size = 0 := (hca _ hlp).trans hp0
                          have Bp := Bp.ext Xi (fun x => x)
                          have O1 := OwnO.ext0 (OwnO.mono (Q' := fun k => k < w.heap.size) (B' := fun k => c1 k = 2) O1 (fun _ h _ => h) (fun k h1 h2 => (hca k h2).trans h1)) Xi
                          have O2 := OwnO.ext0 (OwnO.mono (Q' := fun _ => False) (B' := fun k => c1 k = 3) O2 (fun _ h _ => h) (fun k h1 h2 => (hca k h2).trans h1)) Xi
                          have O3 := OwnO.ext0 (OwnO.mono (Q' := fun _ => False) (B' := fun k => c1 k = 4) O3 (fun _ h _ => h) (fun k h1 h2 => (hca k h2).trans h1)) Xi
                          have R4 := tBytes.ext0 (tBytes.mono (P' := fun k => c1 k = 6) R4 (fun k h1 h2 => (hca k h2).trans h1)) Xi
                          have O5 := OwnO.ext0 (OwnO.mono (Q' := fun _ => False) (B' := fun k => c1 k = 7) O5 (fun _ h _ => h) (fun k h1 h2 => (hca k h2).trans h1)) Xi
                          have R168 := tBytes.ext0 R168 Xi
                          have hSp : ¬ (fun k => c1 k = 2 ∨ c1 k = 3 ∨ c1 k = 4) w98.heap.size := by show ¬ (c1 _ = 2 ∨ c1 _ = 3 ∨ c1 _ = 4); omega
                          have hmb : manyR b ≤ b.length := Nat.min_le_right _ _
                          have hsb := hs.2.1
                          refine .skip (.code (.seq (.keep [(25, _), (23, _), (22, _), (18, _), (20, _), (17, _), (0, _), (4, _), (11, _), (12, _), (126, _), (127, _)] ⟨rfl, rfl, rfl, rfl, rfl, rfl, rfl, rfl, rfl, rfl, rfl, rfl, trivial⟩ ?_)))
                          refine .tree (fun k => c1 k = 2 ∨ c1 k = 3 ∨ c1 k = 4) [11, 12, 19, 20, 27, 28, 32, 36, 40] (.op 0 (.op 1 (.op 2 (.op 3 (.op 4 (.op 5 (.op 6 (.op 7 (.op 8 (.op 9 (.op 10 (.op 13 (.op 14 (.op 15 (.op 16 (.op 17 (.op 18 (.op 21 (.op 22 (.op 23 (.op 24 (.op 25 (.op 26 (parT [(20, 11), (20, 12), (28, 11), (28, 12), (28, 19), (28, 20)] 6 [[11, 12], [19, 20], [27, 28]] (.op 29 (.op 30 (.op 31 (.alt 32 (.op 32 (.op 33 (.op 34 (.op 35 (.alt 36 (.op 36 (.op 37 (.op 38 (.op 39 (.alt 40 (.op 40 (.nil)) (.stop)))))) (.stop)))))) (.stop))))))))))))))))))))))))))))) (by kernel_rfl) (by kernel_rfl) (by kernel_rfl) ?_
                          refine .p rfl rfl rfl rfl (fun wx hx => .mv rfl) ?_
                          refine .p rfl rfl rfl rfl (fun wx hx => .mv rfl) ?_
                          refine .p rfl rfl rfl rfl (fun wx hx => .mv rfl) ?_
                          refine .p rfl rfl rfl rfl (fun wx hx => .mv rfl) ?_
                          refine .p rfl rfl rfl rfl (fun wx hx => .nilCheck rfl) ?_
                          refine .p rfl rfl rfl rfl (fun wx hx => .fieldAddr rfl rfl rfl rfl) ?_
                          refine .p rfl rfl rfl rfl (fun wx hx => .fieldAddr rfl rfl rfl rfl) ?_
                          refine .p rfl rfl rfl rfl (fun wx hx => .load rfl rfl rfl ((Bp.ext hx hSp).cell 0)) ?_
                          refine .p rfl rfl rfl rfl (fun wx hx => .mv rfl) ?_
                          refine .p rfl rfl rfl rfl (fun wx hx => .mv rfl) ?_
                          refine .p rfl rfl rfl rfl (fun wx hx => .cast (.cutHi (s := 1) rfl rfl rfl rfl (by omega)) (show cutV 1 a12 c12 0 (((readF (cutF (cutF idx).2.1).2.1).1 : Nat) : Int).toNat = _ from hv168)) ?_
                          refine .p rfl rfl rfl rfl (fun wx hx => .mv rfl) ?_
                          refine .p rfl rfl rfl rfl (fun wx hx => .nilCheck rfl) ?_
                          refine .p rfl rfl rfl rfl (fun wx hx => .fieldAddr rfl rfl rfl rfl) ?_
                          refine .p rfl rfl rfl rfl (fun wx hx => .fieldAddr rfl rfl rfl rfl) ?_
                          refine .p rfl rfl rfl rfl (fun wx hx => .load rfl rfl rfl ((Bp.ext hx hSp).cell 1)) ?_
                          refine .p rfl rfl rfl rfl (fun wx hx => .mv rfl) ?_
                          refine .p rfl rfl rfl rfl (fun wx hx => .mv rfl) ?_
                          refine .p rfl rfl rfl rfl (fun wx hx => .nilCheck rfl) ?_
                          refine .p rfl rfl rfl rfl (fun wx hx => .fieldAddr rfl rfl rfl rfl) ?_
                          refine .p rfl rfl rfl rfl (fun wx hx => .fieldAddr rfl rfl rfl rfl) ?_
                          refine .p rfl rfl rfl rfl (fun wx hx => .load rfl rfl rfl ((Bp.ext hx hSp).cell 2)) ?_
                          refine .p rfl rfl rfl rfl (fun wx hx => .mv rfl) ?_
                          refine .grow3 (growT_good (t := tBytes) (Q := (fun k => k < w.heap.size)) (θ := 2) (κ := 5) (xs := done.map (·.bytes)) (y := all.take (sizeR idx)) (eb := 24) (by decide) (by decide) (fun k _ h => .inl h) rfl rfl rfl rfl rfl rfl rfl rfl (by decide) rfl rfl rfl (fun _ => by kernel_rfl) rfl rfl rfl rfl rfl (by rw [List.length_map]; omega) (by rw [List.length_map]; simp only [Lim]; omega)) (growT_good (t := tStr) (Q := fun _ => False) (θ := 3) (κ := 9) (xs := done.map (·.fst)) (y := (cutF idx).1) (eb := 16) (by decide) (by decide) (fun k _ h => .inr (.inl h)) rfl rfl rfl rfl rfl rfl rfl rfl (by decide) rfl rfl rfl (fun _ => by kernel_rfl) rfl rfl rfl rfl rfl (by rw [List.length_map]; omega) (by rw [List.length_map]; simp only [Lim]; omega)) (growT_good (t := tStr) (Q := fun _ => False) (θ := 4) (κ := 9) (xs := done.map (·.lst)) (y := (cutF (cutF idx).2.1).1) (eb := 16) (by decide) (by decide) (fun k _ h => .inr (.inr h)) rfl rfl rfl rfl rfl rfl rfl rfl (by decide) rfl rfl rfl (fun _ => by kernel_rfl) rfl rfl rfl rfl rfl (by rw [List.length_map]; omega) (by rw [List.length_map]; simp only [Lim]; omega)) O1 R168 (fun k hk => ⟨by have hk : k < w.heap.size := hk; omega, (hca k (by have hk : k < w.heap.size := hk; omega)).trans (hlo k hk)⟩) O2 (show tStr.rep _ _ (str (cutF idx).1) (cutF idx).1 from ⟨rfl, by simp only [Lim]; omega⟩) (fun _ h => h.elim) O3 (show tStr.rep _ _ (str (cutF (cutF idx).2.1).1) (cutF (cutF idx).2.1).1 from ⟨rfl, by simp only [Lim]; omega⟩) (fun _ h => h.elim) (by decide) (by decide) ?_
                          rintro r187 r195 r203 c2 w203 hX203 hFa O187 O195 O203
                          obtain ⟨a187, c187, rfl, hc187⟩ := OwnO.val O187
                          obtain ⟨a195, c195, rfl, hc195⟩ := OwnO.val O195
                          obtain ⟨a203, c203, rfl, hc203⟩ := OwnO.val O203
                          have z203 := hX203.size
                          refine .p rfl rfl rfl rfl (fun wx hx => .nilCheck rfl) ?_
                          refine .p rfl rfl rfl rfl (fun wx hx => .fieldAddr rfl rfl rfl rfl) ?_
                          refine .p rfl rfl rfl rfl (fun wx hx => .fieldAddr rfl rfl rfl rfl) ?_
                          refine .alt ?_ ?_
                          · refine .sL rfl rfl rfl (.store rfl rfl rfl rfl rfl (Bp.ext hX203 hSp) (by simp)) (by kernel_rfl) ?_
                            intro w32s P32
                            have Bq : Blk w32s w98.heap.size 89 [_, v2, v3, v4, v5] := P32.blk
                            refine .p rfl rfl rfl rfl (fun wx hx => .nilCheck rfl) ?_
                            refine .p rfl rfl rfl rfl (fun wx hx => .fieldAddr rfl rfl rfl rfl) ?_
                            refine .p rfl rfl rfl rfl (fun wx hx => .fieldAddr rfl rfl rfl rfl) ?_
                            refine .alt ?_ ?_
                            · refine .sL rfl rfl rfl (.store rfl rfl rfl rfl rfl Bq (by simp)) (by kernel_rfl) ?_
                              intro w36s P36
                              have Bq : Blk w36s w98.heap.size 89 [_, _, v3, v4, v5] := P36.blk
                              refine .p rfl rfl rfl rfl (fun wx hx => .nilCheck rfl) ?_
                              refine .p rfl rfl rfl rfl (fun wx hx => .fieldAddr rfl rfl rfl rfl) ?_
                              refine .p rfl rfl rfl rfl (fun wx hx => .fieldAddr rfl rfl rfl rfl) ?_
                              refine .alt ?_ ?_
                              · refine .sL rfl rfl rfl (.store rfl rfl rfl rfl rfl Bq (by simp)) (by kernel_rfl) ?_
                                intro w40s P40
                                have Bq : Blk w40s w98.heap.size 89 [_, _, _, v4, v5] := P40.blk
                                have XP := (P32.ext.trans P36.ext).trans P40.ext
                                have z40 := XP.size
                                obtain ⟨c3, hc3⟩ : ∃ c3 : Nat → Nat, c3 = fun k => if k < w40s.heap.size then c2 k else 7 := ⟨_, rfl⟩
                                have h3a : ∀ k, k < w40s.heap.size → c3 k = c2 k := fun k hk => by rw [hc3]; exact if_pos hk
                                have h3b : ∀ k, w40s.heap.size ≤ k → c3 k = 7 := fun k hk => by rw [hc3]; exact if_neg (by omega)
                                have h2p : c2 w98.heap.size = 0 := (hFa _ (by omega)).trans hp1
                                have O5 := OwnO.ext (OwnO.mono (OwnO.ext (OwnO.mono O5 (Q' := fun _ => False) (B' := fun k => c1 k = 7 ∧ k < w169.heap.size) (fun _ h _ => h) (fun k h hk => ⟨h, hk⟩)) hX203 (fun k h _ e => by have e : c1 k = 2 ∨ c1 k = 3 ∨ c1 k = 4 := e; omega) (fun _ h => h.elim)) (Q' := fun _ => False) (B' := fun k => c2 k = 7 ∧ k < w203.heap.size) (fun _ h _ => h) (fun k h hk => ⟨(hFa k h.2).trans h.1, hk⟩)) XP (fun k h _ e => by have e : k = w98.heap.size := e; subst e; omega) (fun _ h => h.elim)
                                have O5 := OwnO.mono O5 (Q' := fun _ => False) (B' := fun k => c3 k = 7) (fun _ h _ => h) (fun k h hk => (h3a k hk).trans h.1)
                                have R169 : (Sl tEntry).rep (fun k => c1 k = 8) w169 _ _ := OwnO.rep O169 (fun k h _ => hcb k (by have h : w143.heap.size ≤ k := h; omega)) (fun _ h _ => h.elim)
                                have R169 := (Sl tEntry).ext ((Sl tEntry).ext R169 hX203 (fun k h _ e => by have e : c1 k = 2 ∨ c1 k = 3 ∨ c1 k = 4 := e; omega)) XP (fun k h _ e => by have e : k = w98.heap.size := e; subst e; omega)
                                refine .nil (.code (.seq (.keep [(25, _), (23, _), (22, _), (18, _), (0, _), (4, _), (11, _), (12, _), (126, _), (127, _)] ⟨rfl, rfl, rfl, rfl, rfl, rfl, rfl, rfl, rfl, rfl, trivial⟩ (.region ?_))))
                                refine .p rfl rfl (.mv rfl) ?_
                                refine .p rfl rfl (.mv rfl) ?_
                                refine .p rfl rfl (.nilCheck rfl) ?_
                                refine .p rfl rfl (.fieldAddr rfl rfl rfl rfl) ?_
                                refine .p rfl rfl (.load rfl rfl rfl (Bq.cell 4)) ?_
                                refine .p rfl rfl (.mv rfl) ?_
                                refine .v rfl rfl (.appendLo (t := tEntry) (Q := fun _ => False) (xs := entsR done) (ys := (readE (all.take (sizeR idx))).1) (B := fun k => c3 k = 7) (eb := 48) rfl O5 (fun k hk => h3b k hk) rfl (Sl.holds R169 (fun _ _ h => entry_any h)) rfl rfl rfl rfl rfl rfl rfl (by omega) (by simp only [Lim]; omega) (fun _ h _ => h.elim)) ?_
                                rintro r219 w219 ⟨O219, Y219⟩
                                have z219 := Y219.size
                                obtain ⟨a219, c219, rfl, hc219⟩ := OwnO.val O219
                                have Bq := Bq.ext Y219 (fun e => by have := h3a w98.heap.size (by omega); omega)
                                refine .p rfl rfl (.nilCheck rfl) ?_
                                refine .p rfl rfl (.fieldAddr rfl rfl rfl rfl) ?_
                                refine .s rfl (.store rfl rfl rfl rfl rfl Bq (by simp)) ?_
                                intro wn Pn
                                have zn := Pn.size
                                refine .nil (.code (.keep [(23, _), (22, _), (18, _), (0, _), (4, _), (11, _), (12, _), (126, _), (127, _)] ⟨rfl, rfl, rfl, rfl, rfl, rfl, rfl, rfl, rfl, trivial⟩ (.draws (by kernel_rfl) (by kernel_rfl) ?_)))
                                refine .p rfl rfl (.mv rfl) ?_
                                refine .p rfl rfl (.mv rfl) ?_
                                refine .p rfl rfl (.cast (.cutLo (s := 1) rfl rfl rfl rfl (by omega)) (show cutV 1 a12 c12 (((readF (cutF (cutF idx).2.1).2.1).1 : Nat) : Int).toNat all.length = _ from hv224)) ?_
                                refine .p rfl rfl (.mv rfl) ?_
                                refine .p rfl rfl (.mv rfl) ?_
                                refine .p rfl rfl (.cast (.cutLo (s := 1) rfl rfl rfl rfl (by omega)) (show cutV 1 a137 c137 (((readF (cutF (cutF idx).2.1).2.1).2.1 : Nat) : Int).toNat (cutF (cutF idx).2.1).2.1.length = _ from hv227)) ?_
                                refine .p rfl rfl (.as rfl) ?_
                                refine .p rfl rfl (.as rfl) ?_
                                refine .nil (.blk (.code (.keep [(13, _), (12, _), (0, _), (4, _), (11, _), (126, _), (127, _)] ⟨rfl, rfl, rfl, rfl, rfl, rfl, rfl, trivial⟩ (.region ?_))))
                                refine .p rfl rfl (.addU rfl rfl (by omega)) ?_
                                refine .p rfl rfl (.mv rfl) ?_
                                refine .nil ?_
                                have hXw : Ext (fun _ => False) w w169 := hX.trans Xi
                                have h2lo : ∀ k, k < w.heap.size → c2 k = 5 := fun k hk => (hFa k (by omega)).trans ((hca k (by omega)).trans (hlo k hk))
                                have hc32 : ∀ k, k < w203.heap.size → c3 k = c2 k := fun k hk => h3a k (by omega)
                                have Yn : Ext (fun k => c3 k = 7) w40s w219 := Y219
                                have q1 := OwnO.along O187 XP hc32 Yn Pn.ext h2p (by omega) (by decide) (by decide) (fun k hk => h2lo k hk)
                                have q2 := OwnO.along O195 XP hc32 Yn Pn.ext h2p (by omega) (by decide) (by decide) (fun k hk => hk.elim)
                                have q3 := OwnO.along O203 XP hc32 Yn Pn.ext h2p (by omega) (by decide) (by decide) (fun k hk => hk.elim)
                                have nS : ∀ k, c1 k ≠ 2 → c1 k ≠ 3 → c1 k ≠ 4 → ¬ (fun k => c1 k = 2 ∨ c1 k = 3 ∨ c1 k = 4) k := fun k h1 h2 h3 e => by have e : c1 k = 2 ∨ c1 k = 3 ∨ c1 k = 4 := e; omega
                                have R4a : tBytes.rep (fun k => c2 k = 6 ∧ k < w203.heap.size) w203 v4 (sieveOf b) := tBytes.mono (tBytes.ext (tBytes.mono R4 (P' := fun k => c1 k = 6 ∧ k < w169.heap.size) (fun k h hk => ⟨h, hk⟩)) hX203 (fun k h _ => nS k (by omega) (by omega) (by omega))) (fun k h hk => ⟨(hFa k h.2).trans h.1, hk⟩)
                                have q4 : tBytes.rep (fun k => c3 k = 6) wn v4 (sieveOf b) := Sl.along R4a XP hc32 Yn Pn.ext h2p (fun k hk h => ⟨by omega, by omega, by rw [hc32 k hk]; exact h.1⟩)
                                have q5 := OwnO.ext O219 Pn.ext (fun k h _ e => by have e : k = w98.heap.size := e; subst e; have := hc32 w98.heap.size (by omega); omega) (fun _ h => h.elim)
                                have hA' : tBytes.rep (fun k => k < w.heap.size) wn (.slice a224 (all.length - sizeR idx) c224) (all.drop (sizeR idx)) := Sl.along (tBytes.ext (tBytes.ext0 R224 Xi) hX203 (fun k h _ => nS k (by have := hca k (by have h : k < w.heap.size := h; omega); have := hlo k h; omega) (by have := hca k (by have h : k < w.heap.size := h; omega); have := hlo k h; omega) (by have := hca k (by have h : k < w.heap.size := h; omega); have := hlo k h; omega))) XP hc32 Yn Pn.ext h2p (fun k hk h => ⟨by rw [h2lo k h]; decide, by rw [h2lo k h]; decide, h⟩)
                                have R227a : tBytes.rep (fun k => c2 k = 8 ∧ k < w203.heap.size) w203 (.slice a227 ((cutF (cutF idx).2.1).2.1.length - (readF (cutF (cutF idx).2.1).2.1).2.1) c227) (restR idx) := tBytes.mono (tBytes.ext (tBytes.mono (tBytes.ext0 R227 (X143.trans X169)) (P' := fun k => c1 k = 8 ∧ k < w169.heap.size) (fun k h hk => ⟨hcb k (by have h : w131.heap.size ≤ k ∧ k < w137.heap.size := h; omega), hk⟩)) hX203 (fun k h _ => nS k (by omega) (by omega) (by omega))) (fun k h hk => ⟨(hFa k h.2).trans h.1, hk⟩)
                                have hI' : tBytes.rep (fun k => c3 k = 5 ∨ c3 k = 8) wn (.slice a227 ((cutF (cutF idx).2.1).2.1.length - (readF (cutF (cutF idx).2.1).2.1).2.1) c227) (restR idx) := Sl.along R227a XP hc32 Yn Pn.ext h2p (fun k hk h => ⟨by omega, by omega, .inr (by rw [hc32 k hk]; exact h.1)⟩)
                                have hXn : Ext (fun _ => False) w wn := (((hXw.then hX203 (fun k h hk => Nat.not_lt.1 (fun hlt => nS k (by have := hca k (by omega); have := hlo k hlt; omega) (by have := hca k (by omega); have := hlo k hlt; omega) (by have := hca k (by omega); have := hlo k hlt; omega) h))).then XP (fun k h hk => by have h : k = w98.heap.size := h; omega)).then Yn (fun k h hk => Nat.not_lt.1 (fun hlt => by have := hc32 k (by omega); have := h2lo k hlt; have h : c3 k = 7 := h; omega))).then Pn.ext (fun k h hk => by have h : k = w98.heap.size := h; omega)
                                exact (again (i + 1, done ++ [rowR all idx], all.drop (sizeR idx), restR idx, _, _, c3, wn) ⟨by show i + 1 ≤ _; omega, hrw, by show (done ++ [_]).length = _; rw [List.length_append, hdl]; rfl, by show (entsR (done ++ [_])).length ≤ (i + 1) * 4096; rw [entsR_snoc, List.length_append]; have : (rowR all idx).ents.length ≤ 4096 := hfew; omega, by show (all.drop _).length ≤ _; rw [List.length_drop]; omega, hA', hI',
                                  ⟨_, _, _, _, _, Pn.blk, by rw [List.map_append]; exact q1, by rw [List.map_append]; exact q2, by rw [List.map_append]; exact q3, q4, by rw [entsR_snoc]; exact q5, (hc32 _ (by omega)).trans h2p, fun k hk => (hc32 k (by omega)).trans (h2lo k hk), by have := hXn.size; omega⟩, hXn⟩ (by show _ - (i + 1) < _ - i; omega)).of ⟨rfl, rfl, rfl, rfl, rfl, rfl, rfl, trivial⟩
                              exact .stop
                            exact .stop
                          exact .stop
              · obtain rfl : i = manyR b := by omega
                rw [Nat.sub_self] at hrw
                have hrw : rowsB b = some (done ++ []) := hrw
                rw [List.append_nil] at hrw
                have hRG' := hRG.done
                have hOp := open_rows hs hnk h3 hrw
                obtain ⟨v1, v2, v3, v4, v5, Bf, O1, O2, O3, R4, Of5, hp0, hlo, hlo2⟩ := hRG
                refine .exit rfl (.code (.seq (.seq (.keep [(0, _), (4, _), (11, _)] ⟨rfl, rfl, rfl, trivial⟩ (.region ?_)))))
                refine .p rfl rfl (.mv rfl) ?_
                refine .p rfl rfl (.nilCheck rfl) ?_
                refine .p rfl rfl (.fieldAddr rfl rfl rfl rfl) ?_
                refine .p rfl rfl (.load rfl rfl rfl (Bf.cell 4)) ?_
                refine .call (first := []) (captured := []) rfl rfl rfl rfl (TMake_fn (OwnO.rep Of5 (fun _ _ _ => trivial) (fun _ h _ => h.elim))) ?_
                rintro _ w234 ⟨v234, rfl, G234, X234⟩
                refine .p rfl rfl (.mv rfl) ?_
                refine .p rfl rfl (.extract rfl rfl) ?_
                refine .p rfl rfl (.extract rfl rfl) ?_
                refine .p rfl rfl (.as rfl) ?_
                refine .p rfl rfl (.as rfl) ?_
                refine .nil (.code (.seq (.keep [(28, _), (27, _), (0, _), (4, _), (11, _)] ⟨rfl, rfl, rfl, rfl, rfl, trivial⟩ (.region ?_))))
                refine .p rfl rfl (.mv rfl) ?_
                refine .p rfl rfl (.ne rfl rfl) ?_
                refine .p rfl rfl (.mv rfl) ?_
                refine .caseD 239 rfl (fun c239 => ?_) (fun c239 => ?_)
                · refine .skip rfl rfl ?_
                  refine .skip rfl rfl ?_
                  refine .skip rfl rfl ?_
                  refine .skip rfl rfl ?_
                  refine .p rfl rfl (.pickT rfl rfl) ?_
                  refine .nil (.code (.keep [(244, _), (4, _), (11, _)] ⟨rfl, rfl, rfl, trivial⟩ (.condT rfl (.seq (.keep [(4, _)] ⟨rfl, trivial⟩ (.region ?_))))))
                  refine .p rfl rfl (.mv rfl) ?_
                  refine .p rfl rfl (.as rfl) ?_
                  refine .p rfl rfl (.as rfl) ?_
                  refine .nil (.code ?_)
                  refine .ret _ rfl ?_
                  exact ⟨.inl ⟨by rw [hOp, if_pos (.inl c239)], rfl⟩, hX.trans X234⟩
                · refine .p rfl rfl (.mv rfl) ?_
                  refine .p rfl rfl (.mv rfl) ?_
                  refine .call (first := []) (captured := []) rfl rfl rfl rfl (bytesEqual_fn (Gr.rep G234) (tBytes.ext0 (tBytes.mono h (fun _ _ _ => trivial)) (hX.trans X234))) ?_
                  rintro _ w242 ⟨rfl, X242⟩
                  refine .p rfl rfl (.notD rfl) ?_
                  refine .p rfl rfl (.pickF rfl rfl) ?_
                  refine .nil (.code (.keep [(244, _), (4, _), (11, _)] ⟨rfl, rfl, rfl, trivial⟩ ?_))
                  refine .condD rfl (fun c244 => ?_) (fun c244 => ?_)
                  · refine .seq (.keep [(4, _)] ⟨rfl, trivial⟩ (.region ?_))
                    refine .p rfl rfl (.mv rfl) ?_
                    refine .p rfl rfl (.as rfl) ?_
                    refine .p rfl rfl (.as rfl) ?_
                    refine .nil (.code ?_)
                    refine .ret _ rfl ?_
                    exact ⟨.inl ⟨by rw [hOp, if_pos (.inr c244)], rfl⟩, (hX.trans X234).trans X242⟩
                  · refine .skip (.code (.seq (.keep [(11, _)] ⟨rfl, trivial⟩ (.region ?_))))
                    refine .p rfl rfl (.mv rfl) ?_
                    refine .p rfl rfl (.as rfl) ?_
                    refine .p rfl rfl (.as rfl) ?_
                    refine .nil (.code ?_)
                    refine .ret _ rfl ?_
                    exact ⟨.inr ⟨done, w98.heap.size, by rw [hOp, if_neg (fun hn => hn.elim c239 c244)], rfl, (hRG'.ext0 X234).ext0 X242⟩, (hX.trans X234).trans X242⟩
end Go.Proofs.Ythkgadhamecnlaa
