import Derived.Test.YtpfehnopghffjaaGreatDoorT11
import Derived.Test.YtpfehnopghffjaaGreatDoorT08
import Derived.Shelf.GgSortFunc.InsertionK
import Derived.Test.YtpfehnopghffjaaGreatDoorT09
import Derived.Shelf.SlSortCmp.WholeK
import Derived.Shelf.SlSortCmp.NoneTotal
import Derived.Lib.Bytealg
import Derived.Test.YtpfehnopghffjaaGreatDoorT10
import Derived.Test.YtpfehnopghffjaaGreatDoorProg
set_option linter.unusedVariables false
set_option linter.unusedSimpArgs false
set_option maxRecDepth 20000
namespace Go.Proofs.YtpfehnopghffjaaGreatDoor
open Go
open room files
theorem Own.at {α : Type} {t : Ty α} {Q : Nat → Prop} {E : TypeId} {w : World} {xs : List α} {b n cap i : Nat} {x : α} (hO : Own t Q E w (.slice (some ⟨b, 0, none⟩) n cap) xs b) (hi : xs[i]? = some x) : ∃ u, Cells w b (0 + i * t.size) u.cells.toList ∧ t.rep Q w u x := by
 obtain ⟨hl, ⟨_, h⟩ | ⟨cap', us, sp, hv', hc, he, hB, hlen⟩⟩ := hO
 ·cases h
 ·cases hv'
  obtain ⟨u, hu, hr⟩ := he.get hi
  refine ⟨u, ?_, hr⟩
  have hsz := he.mem (n := t.size) (fun u x h => t.sz h)
  have h1 := (hB.cells).left.drop (i * t.size)
  rw [← flat_drop i hsz] at h1
  have hlt : i < us.length := (List.getElem?_eq_some_iff.1 hu).1
  have h2 : us.drop i = u :: us.drop (i + 1) := by
   rw [List.getElem?_eq_getElem hlt] at hu
   rw [List.drop_eq_getElem_cons hlt]
   simp at hu
   rw [hu]
  rw [h2, flat_cons] at h1
  exact h1.left
namespace files
section
variable {α : Type} {p : α → Bool} {l : List α}
def idxG (p : α → Bool) (l : List α) : Int := match l.findIdx? p with | some i => (i : Int) | none => -1
theorem idxG_some {i : Nat} (hi : i < l.length) (h : p l[i] = true) (ha : ∀ j (h : j < l.length), j < i → p l[j] = false) : idxG p l = i := by
 have : l.findIdx? p = some i := List.findIdx?_eq_some_iff_getElem.2 ⟨hi, h, fun j hj => by rw [ha j (by omega) hj]; exact Bool.false_ne_true⟩
 unfold idxG
 rw [this]
theorem idxG_none (ha : ∀ j (h : j < l.length), p l[j] = false) : idxG p l = -1 := by
 have : l.findIdx? p = none := List.findIdx?_eq_none_iff.2 (fun x hx => by
  obtain ⟨j, hj, rfl⟩ := List.getElem_of_mem hx
  exact ha j hj)
 unfold idxG
 rw [this]
theorem idxG_neg (h : idxG p l = -1) : ∀ x ∈ l, p x = false := fun x hx => by
 unfold idxG at h
 cases e : l.findIdx? p with
 | none => have := List.findIdx?_eq_none_iff.1 e x hx; simpa using this
 | some i => rw [e] at h; exact absurd (show ((i : Nat) : Int) = -1 from h) (by omega)
theorem idxG_at (h : ¬ idxG p l = -1) : ∃ i, l.findIdx? p = some i ∧ idxG p l = i ∧ i < l.length := by
 unfold idxG at h ⊢
 cases e : l.findIdx? p with
 | none => rw [e] at h; exact absurd rfl h
 | some i => exact ⟨i, rfl, rfl, (List.findIdx?_eq_some_iff_getElem.1 e).1⟩
theorem idxG_split {i : Nat} (h : l.findIdx? p = some i) (hi : i < l.length) : (l.take (i + 1)).filter (fun x => !p x) = l.take i := by
 rw [List.findIdx?_eq_some_iff_getElem] at h
 obtain ⟨h', hp, hb⟩ := h
 rw [List.take_succ_eq_append_getElem hi, List.filter_append]
 have e1 : [l[i]].filter (fun x => !p x) = [] := by simp [hp]
 have e2 : (l.take i).filter (fun x => !p x) = l.take i := by
  rw [List.filter_eq_self]
  intro x hx
  obtain ⟨j, hj, rfl⟩ := List.getElem_of_mem hx
  rw [List.length_take] at hj
  rw [List.getElem_take]
  simpa using hb j (by omega)
 rw [e1, e2, List.append_nil]
theorem filter_stepG {q : α → Bool} {j : Nat} (hj : j < l.length) : (l.take (j + 1)).filter q = (l.take j).filter q ++ (if q l[j] = true then [l[j]] else []) := by
 rw [List.take_succ_eq_append_getElem hj, List.filter_append]
 congr 1
 by_cases h : q l[j] = true
 ·rw [if_pos h]; simp [h]
 ·rw [if_neg h]; simp [h]
theorem drop_atG {m : List α} {j : Nat} (h : l.drop j = m.drop j) (h1 : j < l.length) (h2 : j < m.length) : l[j] = m[j] ∧ l.drop (j + 1) = m.drop (j + 1) := by
 rw [List.drop_eq_getElem_cons h1, List.drop_eq_getElem_cons h2] at h
 injection h with h3 h4
 exact ⟨h3, h4⟩
theorem set_takeG {i : Nat} {x : α} (h : i < l.length) : (l.set i x).take (i + 1) = l.take i ++ [x] := by
 rw [List.take_succ_eq_append_getElem (by rw [List.length_set]; exact h), List.take_set_of_le (Nat.le_refl i), List.getElem_set_self]
theorem set_dropG {i j : Nat} {x : α} (h : i < j) : (l.set i x).drop j = l.drop j := by
 rw [List.drop_set_of_lt h]
end
theorem wrongF_c {x : Dir} {l : List Change} (h : ¬ 64 < l.length) : wrongF x l = chgW x [] l := by unfold wrongF; rw [if_neg h]
end files
attribute [local irreducible] readD slotB slotF mountF slotOK checkR disk.readF findTo findF writeF nameF
theorem IndexFiles_fn {w : World} {v : Value} {l : List File} {f : FuncId} {cap : List Value} {p : File → Bool} (h : (Sl tFile).rep All w v l) (hk : ∀ (x : File) (u : Value) (w' : World), tFile.rep All w' u x → Ext (fun _ => False) w w' → Fn Tryz.prog f ([] ++ [u] ++ cap) w' (fun r w2 => r = .bool (p x) ∧ Ext (fun _ => False) w' w2)) : Fn Tryz.prog 119 [v, .func (.func f) #[] cap.toArray] w (fun r w2 => r = i64 (idxG p l) ∧ Ext (fun _ => False) w w2) := by
 obtain ⟨a, capa, rfl, hcap⟩ := Sl.val h
 have hlim := Sl.lim h
 simp only [Lim] at hlim
 refine Fn.enter (fun w => Tryz.call119 _ w) Tryz.func119 rfl ?_
 refine .seq (.region ?_)
 refine .p rfl rfl (.as rfl) (.nil (.code (.seq (.seq (.keep [(0, _), (1, _)] ⟨rfl, rfl, trivial⟩ (.region ?_))))))
 refine .p rfl rfl (.mv rfl) (.p rfl rfl (.len rfl rfl) (.p rfl rfl (.mv rfl) (.nil (.code (.block (.keep [(8, _), (7, _), (0, _), (1, _)] ⟨rfl, rfl, rfl, rfl, trivial⟩ ?_))))))
 refine .loop (S := Nat × World) (fun s => [(0, .slice a l.length capa), (1, .func (.func f) #[] cap.toArray), (7, i64 l.length), (8, i64 s.1)]) (fun s => s.2) (fun s => s.1 ≤ l.length ∧ (∀ j (h : j < l.length), j < s.1 → p l[j] = false) ∧ Ext (fun _ => False) w s.2) (fun s => l.length - s.1) (0, w) ⟨rfl, rfl, rfl, rfl, trivial⟩ rfl ⟨Nat.zero_le _, fun j _ h => absurd h (Nat.not_lt_zero _), .refl _⟩ ?_
 rintro ⟨i, wi⟩ J ⟨hi', hn, hX⟩ again
 simp only at hi' hn hX
 change G _ [(0, .slice a l.length capa), (1, .func (.func f) #[] cap.toArray), (7, i64 l.length), (8, i64 i)] _ _ wi
 refine .seq (.region ?_)
 refine .p rfl rfl (.lt rfl rfl) (.nil (.code (.seq ?_)))
 refine .condD rfl (fun c9 => ?_) (fun c9 => ?_)
 ·have hi : i < l.length := by omega
  obtain ⟨b1, o1, q1, ue, e, _, hcs, hre⟩ := Sl.at h (List.getElem?_eq_getElem hi)
  cases e
  obtain ⟨fa1, fc1, rfl, hps1, hnm1, hsz1⟩ := tFile.val hre
  refine .skip (.code (.seq (.block (.seq (.keep [(0, _), (1, _), (7, _), (8, _)] ⟨rfl, rfl, rfl, rfl, trivial⟩ (.region ?_))))))
  refine .p rfl rfl (.mv rfl) (.p rfl rfl (.as rfl) (.nil (.code (.seq (.keep [(5, _), (0, _), (1, _), (7, _), (8, _)] ⟨rfl, rfl, rfl, rfl, rfl, trivial⟩ (.region ?_))))))
  refine .p rfl rfl (.mv rfl) (.p rfl rfl (.mv rfl) (.p rfl rfl (.mv rfl) (.p rfl rfl (.indexAddr (s := 3) rfl rfl rfl rfl (by omega)) (.p rfl rfl (.loadA (n := 3) rfl rfl rfl rfl rfl (hcs.ext hX (fun x => x))) (.call (first := []) (captured := cap) rfl rfl rfl rfl (hk l[i] _ wi (tFile.ext0 hre hX) hX) ?_)))))
  rintro _ w16 ⟨rfl, X16⟩
  refine .nil (.code (.keep [(16, _), (5, _), (0, _), (1, _), (7, _), (8, _)] ⟨rfl, rfl, rfl, rfl, rfl, rfl, trivial⟩ ?_))
  refine .cond rfl (fun c16 => ?_) (fun c16 => ?_)
  ·refine .seq (.keep [(5, _)] ⟨rfl, trivial⟩ (.region ?_))
   refine .p rfl rfl (.mv rfl) (.p rfl rfl (.as rfl) (.nil (.code ?_)))
   refine .ret _ rfl ?_
   exact ⟨by rw [idxG_some hi c16 hn]; rfl, hX.trans X16⟩
  ·refine .skip (.blk (.code (.keep [(0, _), (1, _), (7, _), (8, _)] ⟨rfl, rfl, rfl, rfl, trivial⟩ (.region ?_))))
   refine .p rfl rfl (.add rfl rfl (by omega)) (.p rfl rfl (.mv rfl) (.nil ?_))
   refine (again (i + 1, w16) ⟨by show i + 1 ≤ _; omega, fun j hj h1 => ?_, hX.trans X16⟩ (by show _ - (i + 1) < _ - i; omega)).of ⟨rfl, rfl, rfl, rfl, trivial⟩
   rcases Nat.lt_or_ge j i with h2 | h2
   ·exact hn j hj h2
   ·have h1 : j < i + 1 := h1
    obtain rfl : j = i := by omega
    exact c16
 ·obtain rfl : i = l.length := by omega
  refine .exit rfl (.code (.seq (.keep [] trivial (.region ?_))))
  refine .p rfl rfl (.as rfl) (.nil (.code ?_))
  refine .ret _ rfl ?_
  exact ⟨by rw [idxG_none (fun j hj => hn j hj hj)]; rfl, hX⟩
theorem cloneFiles_fn {w : World} {v : Value} {l : List File} {R : Nat → Prop} (h : (Sl tFile).rep R w v l) (hl : l.length ≤ 1000000) : Fn Tryz.prog 84 [v] w (fun r w2 => OwnO tFile (fun k => R k ∧ k < w.heap.size) 28 w2 r l (fun k => w.heap.size ≤ k) ∧ Ext (fun _ => False) w w2) := by
 obtain ⟨a, cap, rfl, hcap⟩ := Sl.val h
 refine Fn.enter (fun w => Tryz.call84 _ w) Tryz.func84 rfl ?_
 refine .seq (.region ?_)
 refine .p rfl rfl (.as rfl) (.nil (.code (.seq (.seq (.keep [(0, _)] ⟨rfl, trivial⟩ (.region ?_))))))
 refine .p rfl rfl (.mv rfl) (.p rfl rfl (.eqNil rfl rfl rfl) (.nil (.code (.keep [(4, _), (0, _)] ⟨rfl, rfl, trivial⟩ ?_))))
 refine .cond rfl (fun c4 => ?_) (fun c4 => ?_)
 ·refine .seq (.keep [] trivial (.region ?_))
  refine .p rfl rfl (.as rfl) (.nil (.code ?_))
  refine .ret _ rfl ?_
  rw [Sl.isNone h c4]
  exact ⟨OwnO.nil, .refl _⟩
 ·refine .skip (.code (.seq (.keep [(0, _)] ⟨rfl, trivial⟩ (.region ?_))))
  refine .v rfl rfl (.lits rfl rfl (fun _ => by kernel_rfl)) ?_
  rintro _ w5 ⟨rfl, N5⟩
  refine .p rfl rfl (.mv rfl) (.v rfl rfl (.append (t := tFile) (Q := fun k => R k ∧ k < w.heap.size) (eb := 48) rfl (Own.ofNew (us := []) N5 .nil (by decide) rfl rfl) rfl (Sl.holds ((Sl tFile).ext0 ((Sl tFile).mono h (P' := fun k => R k ∧ k < w.heap.size) (fun k h1 h2 => ⟨h1, h2⟩)) N5.ext) (fun _ _ h => h)) rfl rfl rfl rfl rfl rfl rfl (by simp; omega) (by simp [Lim]; omega) (fun k h _ => Nat.ne_of_lt h.2)) ?_)
  rintro v7 w7 ⟨b7, O7, X7, hb7⟩
  have O7 := O7.mono (Q' := fun k => R k ∧ k < w.heap.size) (fun _ h _ => h.1)
  have Z7 := N5.ext.then X7 (by rintro k rfl _; omega)
  have hz5 := N5.size
  refine .p rfl rfl (.as rfl) (.nil (.code ?_))
  refine .ret _ rfl ?_
  exact ⟨OwnO.of O7 (by show w.heap.size ≤ b7; omega), Z7⟩
theorem deleteFiles_fn {w : World} {v : Value} {l : List File} {B Q : Nat → Prop} {f : FuncId} {cap : List Value} {p : File → Bool} (h : OwnO tFile Q 28 w v l B) (hq : ∀ k, Q k → ¬ B k) (hk : ∀ (x : File) (u : Value) (w' : World), tFile.rep All w' u x → Ext B w w' → Fn Tryz.prog f ([] ++ [u] ++ cap) w' (fun r w2 => r = .bool (p x) ∧ Ext (fun _ => False) w' w2)) : Fn Tryz.prog 83 [v, .func (.func f) #[] cap.toArray] w (fun r w2 => OwnO tFile (fun k => Q k ∧ k < w.heap.size) 28 w2 r (l.filter (fun x => !p x)) B ∧ Ext B w w2) := by
 have hR := OwnO.rep h (R := All) (fun _ _ _ => trivial) (fun _ _ _ => trivial)
 have hlim := Sl.lim hR
 simp only [Lim] at hlim
 refine Fn.enter (fun w => Tryz.call83 _ w) Tryz.func83 rfl ?_
 refine .seq (.region ?_)
 refine .p rfl rfl (.as rfl) (.nil (.code (.seq (.keep [(0, _), (1, _)] ⟨rfl, rfl, trivial⟩ (.region ?_)))))
 refine .p rfl rfl (.mv rfl) (.p rfl rfl (.mv rfl) (.call (first := []) (captured := []) rfl rfl rfl rfl (IndexFiles_fn (f := f) (cap := cap) (p := p) hR (fun x u w' hu hx => hk x u w' hu (hx.mono (fun _ _ h => h.elim)))) ?_))
 rintro _ w10 ⟨rfl, X10⟩
 have X10B : Ext B w w10 := X10.mono (fun _ _ h => h.elim)
 refine .p rfl rfl (.as rfl) (.nil (.code (.seq (.seq (.keep [(5, _), (0, _), (1, _)] ⟨rfl, rfl, rfl, trivial⟩ (.region ?_))))))
 refine .p rfl rfl (.mv rfl) (.p rfl rfl (.eq rfl rfl) (.nil (.code (.keep [(12, _), (5, _), (0, _), (1, _)] ⟨rfl, rfl, rfl, rfl, trivial⟩ ?_))))
 refine .condD rfl (fun c12 => ?_) (fun c12 => ?_)
 ·have hno := idxG_neg c12
  refine .seq (.keep [(0, _)] ⟨rfl, trivial⟩ (.region ?_))
  refine .p rfl rfl (.mv rfl) (.p rfl rfl (.as rfl) (.nil (.code ?_)))
  refine .ret _ rfl ?_
  have e : l.filter (fun x => !p x) = l := List.filter_eq_self.2 (fun x hx => by rw [hno x hx]; rfl)
  rw [e]
  exact ⟨OwnO.ext0 (OwnO.mono h (fun k h hl => ⟨h, hl⟩) (fun _ h _ => h)) X10, X10B⟩
 ·obtain ⟨i0, hf0, hi0, hil0⟩ := idxG_at c12
  rw [hi0]
  have hsp := idxG_split hf0 hil0
  obtain ⟨b, hbB, hbl, hO0⟩ : ∃ b, B b ∧ b < w.heap.size ∧ Own tFile Q 28 w v l b := by
   rcases h with ⟨h, _⟩ | h
   ·rw [h] at hil0; exact absurd hil0 (Nat.not_lt_zero _)
   ·exact h
  obtain ⟨cap1, rfl, hc1⟩ : ∃ cap1, v = .slice (some ⟨b, 0, none⟩) l.length cap1 ∧ l.length ≤ cap1 := by
   obtain ⟨_, ⟨h, _⟩ | ⟨cap1, us, sp, hv, hc, _⟩⟩ := hO0
   ·rw [h] at hil0; exact absurd hil0 (Nat.not_lt_zero _)
   ·exact ⟨cap1, hv, hc⟩
  have hO0 := hO0.mono (Q' := fun k => Q k ∧ k < w.heap.size) (fun k h hl => ⟨h, hl⟩)
  refine .skip (.code (.seq (.seq (.keep [(5, _), (0, _), (1, _)] ⟨rfl, rfl, rfl, trivial⟩ (.region ?_)))))
  refine .p rfl rfl (.mv rfl) (.p rfl rfl (.add rfl rfl (by omega)) (.p rfl rfl (.as rfl) (.nil (.code (.block (.keep [(6, _), (5, _), (0, _), (1, _)] ⟨rfl, rfl, rfl, rfl, trivial⟩ ?_))))))
  refine .loop (S := Nat × Nat × List File × World) (fun s => [(0, .slice (some ⟨b, 0, none⟩) l.length cap1), (1, .func (.func f) #[] cap.toArray), (5, i64 s.2.1), (6, i64 s.1)]) (fun s => s.2.2.2) (fun s => s.1 ≤ l.length ∧ s.2.1 < s.1 ∧ s.2.2.1.length = l.length ∧ s.2.2.1.take s.2.1 = (l.take s.1).filter (fun x => !p x) ∧ s.2.2.1.drop s.1 = l.drop s.1 ∧ Own tFile (fun k => Q k ∧ k < w.heap.size) 28 s.2.2.2 (.slice (some ⟨b, 0, none⟩) l.length cap1) s.2.2.1 b ∧ Ext B w s.2.2.2) (fun s => l.length - s.1) (i0 + 1, i0, l, w10) ⟨rfl, rfl, rfl, rfl, trivial⟩ rfl ⟨hil0, Nat.lt_succ_self _, rfl, hsp.symm, rfl, hO0.ext0 X10, X10B⟩ ?_
  rintro ⟨j, i, ys, wi⟩ J ⟨hj', hij, hyl, hfl, hdr, hO, hX⟩ again
  simp only at hj' hij hyl hfl hdr hO hX
  change G _ [(0, .slice (some ⟨b, 0, none⟩) l.length cap1), (1, .func (.func f) #[] cap.toArray), (5, i64 i), (6, i64 j)] _ _ wi
  refine .seq (.seq (.region ?_))
  refine .p rfl rfl (.mv rfl) (.p rfl rfl (.mv rfl) (.p rfl rfl (.len rfl rfl) (.p rfl rfl (.lt rfl rfl) (.nil (.code (.keep [(19, _), (0, _), (1, _), (5, _), (6, _)] ⟨rfl, rfl, rfl, rfl, rfl, trivial⟩ ?_))))))
  refine .condD rfl (fun c19 => ?_) (fun c19 => ?_)
  ·have hj : j < l.length := by omega
   obtain ⟨hyj, hyd⟩ := drop_atG hdr (by omega) hj
   obtain ⟨ue, hcs, hre⟩ := hO.at (i := j) (List.getElem?_eq_getElem (by omega))
   rw [hyj] at hre
   obtain ⟨fa1, fc1, rfl, hps1, hnm1, hsz1⟩ := tFile.val hre
   have hfs := filter_stepG (q := fun x => !p x) hj
   refine .skip (.code (.seq (.block (.seq (.keep [(0, _), (1, _), (5, _), (6, _)] ⟨rfl, rfl, rfl, rfl, trivial⟩ (.region ?_))))))
   refine .p rfl rfl (.mv rfl) (.p rfl rfl (.mv rfl) (.p rfl rfl (.indexAddr (s := 3) rfl rfl rfl rfl (by omega)) (.p rfl rfl (.loadA (n := 3) rfl rfl rfl rfl rfl hcs) (.v rfl rfl (.alloc rfl rfl) ?_))))
   rintro _ w8 ⟨rfl, N8⟩
   refine .s rfl (.storeAll (n := 3) rfl rfl rfl rfl rfl N8.blk rfl) ?_
   intro w9 P8
   have X8 := N8.ext.then P8.ext (by rintro k rfl _; exact Nat.le_refl _)
   have B8 := P8.blk
   have X9 : Ext B w w9 := hX.trans (X8.mono (fun _ _ h => h.elim))
   refine .nil (.code (.seq (.keep [(7, _), (0, _), (1, _), (5, _), (6, _)] ⟨rfl, rfl, rfl, rfl, rfl, trivial⟩ (.region ?_))))
   refine .p rfl rfl (.mv rfl) (.p rfl rfl (.loadA (n := 3) rfl rfl rfl rfl rfl B8.cells) (.call (first := []) (captured := cap) rfl rfl rfl rfl (hk l[j] _ w9 (allOf (tFile.ext0 hre X8)) X9) ?_))
   rintro _ w28 ⟨rfl, X28⟩
   refine .p rfl rfl (.not rfl) (.nil (.code (.keep [(29, _), (7, _), (0, _), (1, _), (5, _), (6, _)] ⟨rfl, rfl, rfl, rfl, rfl, rfl, trivial⟩ ?_)))
   refine .cond rfl (fun c29 => ?_) (fun c29 => ?_)
   ·refine .seq (.keep [(7, _), (0, _), (1, _), (5, _), (6, _)] ⟨rfl, rfl, rfl, rfl, rfl, trivial⟩ (.region ?_))
    refine .p rfl rfl (.mv rfl) (.p rfl rfl (.mv rfl) (.p rfl rfl (.loadA (n := 3) rfl rfl rfl rfl rfl (B8.ext X28 (fun x => x)).cells) (.p rfl rfl (.indexAddr (s := 3) rfl rfl rfl rfl (by omega)) (.s rfl (.storeOwn (i := i) (y' := l[j]) ((hO.ext0 X8).ext0 X28) (by omega) (by show _ = some (Value.pointer (some ⟨b, i * 3, none⟩)); rw [show i * 3 = 0 + i * 3 by omega]; rfl) rfl rfl rfl rfl (tFile.ext0 hre (X8.trans X28)) (fun k hk _ e => hq k hk.1 (by rw [e]; exact hbB))) ?_))))
    rintro w33 ⟨O33, X33⟩
    refine .nil (.code (.keep [(0, _), (1, _), (5, _), (6, _)] ⟨rfl, rfl, rfl, rfl, trivial⟩ (.region ?_)))
    refine .p rfl rfl (.mv rfl) (.p rfl rfl (.add rfl rfl (by omega)) (.p rfl rfl (.as rfl) (.nil (.blk (.code (.keep [(5, _), (0, _), (1, _), (6, _)] ⟨rfl, rfl, rfl, rfl, trivial⟩ (.region ?_)))))))
    refine .p rfl rfl (.mv rfl) (.p rfl rfl (.add rfl rfl (by omega)) (.p rfl rfl (.as rfl) (.nil ?_)))
    exact (again (j + 1, i + 1, ys.set i l[j], w33) ⟨by show j + 1 ≤ _; omega, by show i + 1 < j + 1; omega, by show (ys.set i _).length = _; rw [List.length_set]; exact hyl, by show (ys.set i l[j]).take (i + 1) = _; rw [set_takeG (by omega), hfs, if_pos c29, hfl], by show (ys.set i l[j]).drop (j + 1) = _; rw [set_dropG (by omega)]; exact hyd, O33, (X9.trans (X28.mono (fun _ _ h => h.elim))).trans (X33.mono (fun k _ e => by have e : k = b := e; rw [e]; exact hbB))⟩ (by show _ - (j + 1) < _ - j; omega)).of ⟨rfl, rfl, rfl, rfl, trivial⟩
   ·refine .skip (.blk (.code (.keep [(0, _), (1, _), (5, _), (6, _)] ⟨rfl, rfl, rfl, rfl, trivial⟩ (.region ?_))))
    refine .p rfl rfl (.mv rfl) (.p rfl rfl (.add rfl rfl (by omega)) (.p rfl rfl (.as rfl) (.nil ?_)))
    exact (again (j + 1, i, ys, w28) ⟨by show j + 1 ≤ _; omega, by show i < j + 1; omega, hyl, by show ys.take i = _; rw [hfs, if_neg (by rw [c29]; exact Bool.false_ne_true), List.append_nil, hfl], hyd, (hO.ext0 X8).ext0 X28, X9.trans (X28.mono (fun _ _ h => h.elim))⟩ (by show _ - (j + 1) < _ - j; omega)).of ⟨rfl, rfl, rfl, rfl, trivial⟩
  ·obtain rfl : j = l.length := by omega
   rw [List.take_length] at hfl
   refine .exit rfl (.code (.seq (.keep [(0, _), (5, _)] ⟨rfl, rfl, trivial⟩ (.region ?_))))
   refine .p rfl rfl (.mv rfl) (.p rfl rfl (.mv rfl) (.p rfl rfl (.cast (.cutLo (s := 3) rfl rfl rfl rfl (by omega)) (show cutV 3 (some ⟨b, 0, none⟩) cap1 ((i : Nat) : Int).toNat l.length = cutV tFile.size (some ⟨b, 0, none⟩) cap1 i l.length from rfl)) (.w rfl (.clearOwn hO (by omega) rfl (fun k hk _ e => hq k hk.1 (by rw [e]; exact hbB)) rfl rfl rfl rfl rfl) ?_)))
   rintro _ wc ⟨Oc, Xc⟩
   refine .nil (.code (.seq (.keep [(0, _), (5, _)] ⟨rfl, rfl, trivial⟩ (.region ?_))))
   refine .p rfl rfl (.mv rfl) (.p rfl rfl (.mv rfl) (.p rfl rfl (.cast (.cutHi (s := 3) rfl rfl rfl rfl (by omega)) (show cutV 3 (some ⟨b, 0, none⟩) cap1 0 ((i : Nat) : Int).toNat = .slice (some ⟨b, 0, none⟩) i cap1 from cutV_zero)) (.p rfl rfl (.as rfl) (.nil (.code ?_)))))
   refine .ret _ rfl ?_
   rw [← hfl]
   exact ⟨OwnO.of Oc hbB, hX.trans (Xc.mono (fun k _ e => by have e : k = b := e; rw [e]; exact hbB))⟩
theorem IndexChanges_fn {w : World} {v : Value} {l : List Change} {f : FuncId} {cap : List Value} {p : Change → Bool} (h : (Sl tree.tChange).rep All w v l) (hk : ∀ (x : Change) (u : Value) (w' : World), tree.tChange.rep All w' u x → Ext (fun _ => False) w w' → Fn Tryz.prog f ([] ++ [u] ++ cap) w' (fun r w2 => r = .bool (p x) ∧ Ext (fun _ => False) w' w2)) : Fn Tryz.prog 132 [v, .func (.func f) #[] cap.toArray] w (fun r w2 => r = i64 (idxG p l) ∧ Ext (fun _ => False) w w2) := by
 obtain ⟨a, capa, rfl, hcap⟩ := Sl.val h
 have hlim := Sl.lim h
 simp only [Lim] at hlim
 refine Fn.enter (fun w => Tryz.call132 _ w) Tryz.func132 rfl ?_
 refine .seq (.region ?_)
 refine .p rfl rfl (.as rfl) (.nil (.code (.seq (.seq (.keep [(0, _), (1, _)] ⟨rfl, rfl, trivial⟩ (.region ?_))))))
 refine .p rfl rfl (.mv rfl) (.p rfl rfl (.len rfl rfl) (.p rfl rfl (.mv rfl) (.nil (.code (.block (.keep [(8, _), (7, _), (0, _), (1, _)] ⟨rfl, rfl, rfl, rfl, trivial⟩ ?_))))))
 refine .loop (S := Nat × World) (fun s => [(0, .slice a l.length capa), (1, .func (.func f) #[] cap.toArray), (7, i64 l.length), (8, i64 s.1)]) (fun s => s.2) (fun s => s.1 ≤ l.length ∧ (∀ j (h : j < l.length), j < s.1 → p l[j] = false) ∧ Ext (fun _ => False) w s.2) (fun s => l.length - s.1) (0, w) ⟨rfl, rfl, rfl, rfl, trivial⟩ rfl ⟨Nat.zero_le _, fun j _ h => absurd h (Nat.not_lt_zero _), .refl _⟩ ?_
 rintro ⟨i, wi⟩ J ⟨hi', hn, hX⟩ again
 simp only at hi' hn hX
 change G _ [(0, .slice a l.length capa), (1, .func (.func f) #[] cap.toArray), (7, i64 l.length), (8, i64 i)] _ _ wi
 refine .seq (.region ?_)
 refine .p rfl rfl (.lt rfl rfl) (.nil (.code (.seq ?_)))
 refine .condD rfl (fun c9 => ?_) (fun c9 => ?_)
 ·have hi : i < l.length := by omega
  obtain ⟨b1, o1, q1, ue, e, _, hcs, hre⟩ := Sl.at h (List.getElem?_eq_getElem hi)
  cases e
  obtain ⟨rfl, h1, h2⟩ := tree.tChange.val hre
  refine .skip (.code (.seq (.block (.seq (.keep [(0, _), (1, _), (7, _), (8, _)] ⟨rfl, rfl, rfl, rfl, trivial⟩ (.region ?_))))))
  refine .p rfl rfl (.mv rfl) (.p rfl rfl (.as rfl) (.nil (.code (.seq (.keep [(5, _), (0, _), (1, _), (7, _), (8, _)] ⟨rfl, rfl, rfl, rfl, rfl, trivial⟩ (.region ?_))))))
  refine .p rfl rfl (.mv rfl) (.p rfl rfl (.mv rfl) (.p rfl rfl (.mv rfl) (.p rfl rfl (.indexAddr (s := 3) rfl rfl rfl rfl (by omega)) (.p rfl rfl (.loadA (n := 3) rfl rfl rfl rfl rfl (hcs.ext hX (fun x => x))) (.call (first := []) (captured := cap) rfl rfl rfl rfl (hk l[i] _ wi (tree.tChange.ext0 hre hX) hX) ?_)))))
  rintro _ w16 ⟨rfl, X16⟩
  refine .nil (.code (.keep [(16, _), (5, _), (0, _), (1, _), (7, _), (8, _)] ⟨rfl, rfl, rfl, rfl, rfl, rfl, trivial⟩ ?_))
  refine .cond rfl (fun c16 => ?_) (fun c16 => ?_)
  ·refine .seq (.keep [(5, _)] ⟨rfl, trivial⟩ (.region ?_))
   refine .p rfl rfl (.mv rfl) (.p rfl rfl (.as rfl) (.nil (.code ?_)))
   refine .ret _ rfl ?_
   exact ⟨by rw [idxG_some hi c16 hn]; rfl, hX.trans X16⟩
  ·refine .skip (.blk (.code (.keep [(0, _), (1, _), (7, _), (8, _)] ⟨rfl, rfl, rfl, rfl, trivial⟩ (.region ?_))))
   refine .p rfl rfl (.add rfl rfl (by omega)) (.p rfl rfl (.mv rfl) (.nil ?_))
   refine (again (i + 1, w16) ⟨by show i + 1 ≤ _; omega, fun j hj h1 => ?_, hX.trans X16⟩ (by show _ - (i + 1) < _ - i; omega)).of ⟨rfl, rfl, rfl, rfl, trivial⟩
   rcases Nat.lt_or_ge j i with h2 | h2
   ·exact hn j hj h2
   ·have h1 : j < i + 1 := h1
    obtain rfl : j = i := by omega
    exact c16
 ·obtain rfl : i = l.length := by omega
  refine .exit rfl (.code (.seq (.keep [] trivial (.region ?_))))
  refine .p rfl rfl (.as rfl) (.nil (.code ?_))
  refine .ret _ rfl ?_
  exact ⟨by rw [idxG_none (fun j hj => hn j hj hj)]; rfl, hX⟩
theorem cloneChanges_fn {w : World} {v : Value} {l : List Change} {R : Nat → Prop} (h : (Sl tree.tChange).rep R w v l) (hl : l.length ≤ 1000000) : Fn Tryz.prog 87 [v] w (fun r w2 => OwnO tree.tChange (fun k => R k ∧ k < w.heap.size) 80 w2 r l (fun k => w.heap.size ≤ k) ∧ Ext (fun _ => False) w w2) := by
 obtain ⟨a, cap, rfl, hcap⟩ := Sl.val h
 refine Fn.enter (fun w => Tryz.call87 _ w) Tryz.func87 rfl ?_
 refine .seq (.region ?_)
 refine .p rfl rfl (.as rfl) (.nil (.code (.seq (.seq (.keep [(0, _)] ⟨rfl, trivial⟩ (.region ?_))))))
 refine .p rfl rfl (.mv rfl) (.p rfl rfl (.eqNil rfl rfl rfl) (.nil (.code (.keep [(4, _), (0, _)] ⟨rfl, rfl, trivial⟩ ?_))))
 refine .cond rfl (fun c4 => ?_) (fun c4 => ?_)
 ·refine .seq (.keep [] trivial (.region ?_))
  refine .p rfl rfl (.as rfl) (.nil (.code ?_))
  refine .ret _ rfl ?_
  rw [Sl.isNone h c4]
  exact ⟨OwnO.nil, .refl _⟩
 ·refine .skip (.code (.seq (.keep [(0, _)] ⟨rfl, trivial⟩ (.region ?_))))
  refine .v rfl rfl (.lits rfl rfl (fun _ => by kernel_rfl)) ?_
  rintro _ w5 ⟨rfl, N5⟩
  refine .p rfl rfl (.mv rfl) (.v rfl rfl (.append (t := tree.tChange) (Q := fun k => R k ∧ k < w.heap.size) (eb := 40) rfl (Own.ofNew (us := []) N5 .nil (by decide) rfl rfl) rfl (Sl.holds ((Sl tree.tChange).ext0 ((Sl tree.tChange).mono h (P' := fun k => R k ∧ k < w.heap.size) (fun k h1 h2 => ⟨h1, h2⟩)) N5.ext) (fun _ _ h => h)) rfl rfl rfl rfl rfl rfl rfl (by simp; omega) (by simp [Lim]; omega) (fun k h _ => Nat.ne_of_lt h.2)) ?_)
  rintro v7 w7 ⟨b7, O7, X7, hb7⟩
  have O7 := O7.mono (Q' := fun k => R k ∧ k < w.heap.size) (fun _ h _ => h.1)
  have Z7 := N5.ext.then X7 (by rintro k rfl _; omega)
  have hz5 := N5.size
  refine .p rfl rfl (.as rfl) (.nil (.code ?_))
  refine .ret _ rfl ?_
  exact ⟨OwnO.of O7 (by show w.heap.size ≤ b7; omega), Z7⟩
theorem deleteChanges_fn {w : World} {v : Value} {l : List Change} {B Q : Nat → Prop} {f : FuncId} {cap : List Value} {p : Change → Bool} (h : OwnO tree.tChange Q 80 w v l B) (hq : ∀ k, Q k → ¬ B k) (hk : ∀ (x : Change) (u : Value) (w' : World), tree.tChange.rep All w' u x → Ext B w w' → Fn Tryz.prog f ([] ++ [u] ++ cap) w' (fun r w2 => r = .bool (p x) ∧ Ext (fun _ => False) w' w2)) : Fn Tryz.prog 86 [v, .func (.func f) #[] cap.toArray] w (fun r w2 => OwnO tree.tChange (fun k => Q k ∧ k < w.heap.size) 80 w2 r (l.filter (fun x => !p x)) B ∧ Ext B w w2) := by
 have hR := OwnO.rep h (R := All) (fun _ _ _ => trivial) (fun _ _ _ => trivial)
 have hlim := Sl.lim hR
 simp only [Lim] at hlim
 refine Fn.enter (fun w => Tryz.call86 _ w) Tryz.func86 rfl ?_
 refine .seq (.region ?_)
 refine .p rfl rfl (.as rfl) (.nil (.code (.seq (.keep [(0, _), (1, _)] ⟨rfl, rfl, trivial⟩ (.region ?_)))))
 refine .p rfl rfl (.mv rfl) (.p rfl rfl (.mv rfl) (.call (first := []) (captured := []) rfl rfl rfl rfl (IndexChanges_fn (f := f) (cap := cap) (p := p) hR (fun x u w' hu hx => hk x u w' hu (hx.mono (fun _ _ h => h.elim)))) ?_))
 rintro _ w10 ⟨rfl, X10⟩
 have X10B : Ext B w w10 := X10.mono (fun _ _ h => h.elim)
 refine .p rfl rfl (.as rfl) (.nil (.code (.seq (.seq (.keep [(5, _), (0, _), (1, _)] ⟨rfl, rfl, rfl, trivial⟩ (.region ?_))))))
 refine .p rfl rfl (.mv rfl) (.p rfl rfl (.eq rfl rfl) (.nil (.code (.keep [(12, _), (5, _), (0, _), (1, _)] ⟨rfl, rfl, rfl, rfl, trivial⟩ ?_))))
 refine .condD rfl (fun c12 => ?_) (fun c12 => ?_)
 ·have hno := idxG_neg c12
  refine .seq (.keep [(0, _)] ⟨rfl, trivial⟩ (.region ?_))
  refine .p rfl rfl (.mv rfl) (.p rfl rfl (.as rfl) (.nil (.code ?_)))
  refine .ret _ rfl ?_
  have e : l.filter (fun x => !p x) = l := List.filter_eq_self.2 (fun x hx => by rw [hno x hx]; rfl)
  rw [e]
  exact ⟨OwnO.ext0 (OwnO.mono h (fun k h hl => ⟨h, hl⟩) (fun _ h _ => h)) X10, X10B⟩
 ·obtain ⟨i0, hf0, hi0, hil0⟩ := idxG_at c12
  rw [hi0]
  have hsp := idxG_split hf0 hil0
  obtain ⟨b, hbB, hbl, hO0⟩ : ∃ b, B b ∧ b < w.heap.size ∧ Own tree.tChange Q 80 w v l b := by
   rcases h with ⟨h, _⟩ | h
   ·rw [h] at hil0; exact absurd hil0 (Nat.not_lt_zero _)
   ·exact h
  obtain ⟨cap1, rfl, hc1⟩ : ∃ cap1, v = .slice (some ⟨b, 0, none⟩) l.length cap1 ∧ l.length ≤ cap1 := by
   obtain ⟨_, ⟨h, _⟩ | ⟨cap1, us, sp, hv, hc, _⟩⟩ := hO0
   ·rw [h] at hil0; exact absurd hil0 (Nat.not_lt_zero _)
   ·exact ⟨cap1, hv, hc⟩
  have hO0 := hO0.mono (Q' := fun k => Q k ∧ k < w.heap.size) (fun k h hl => ⟨h, hl⟩)
  refine .skip (.code (.seq (.seq (.keep [(5, _), (0, _), (1, _)] ⟨rfl, rfl, rfl, trivial⟩ (.region ?_)))))
  refine .p rfl rfl (.mv rfl) (.p rfl rfl (.add rfl rfl (by omega)) (.p rfl rfl (.as rfl) (.nil (.code (.block (.keep [(6, _), (5, _), (0, _), (1, _)] ⟨rfl, rfl, rfl, rfl, trivial⟩ ?_))))))
  refine .loop (S := Nat × Nat × List Change × World) (fun s => [(0, .slice (some ⟨b, 0, none⟩) l.length cap1), (1, .func (.func f) #[] cap.toArray), (5, i64 s.2.1), (6, i64 s.1)]) (fun s => s.2.2.2) (fun s => s.1 ≤ l.length ∧ s.2.1 < s.1 ∧ s.2.2.1.length = l.length ∧ s.2.2.1.take s.2.1 = (l.take s.1).filter (fun x => !p x) ∧ s.2.2.1.drop s.1 = l.drop s.1 ∧ Own tree.tChange (fun k => Q k ∧ k < w.heap.size) 80 s.2.2.2 (.slice (some ⟨b, 0, none⟩) l.length cap1) s.2.2.1 b ∧ Ext B w s.2.2.2) (fun s => l.length - s.1) (i0 + 1, i0, l, w10) ⟨rfl, rfl, rfl, rfl, trivial⟩ rfl ⟨hil0, Nat.lt_succ_self _, rfl, hsp.symm, rfl, hO0.ext0 X10, X10B⟩ ?_
  rintro ⟨j, i, ys, wi⟩ J ⟨hj', hij, hyl, hfl, hdr, hO, hX⟩ again
  simp only at hj' hij hyl hfl hdr hO hX
  change G _ [(0, .slice (some ⟨b, 0, none⟩) l.length cap1), (1, .func (.func f) #[] cap.toArray), (5, i64 i), (6, i64 j)] _ _ wi
  refine .seq (.seq (.region ?_))
  refine .p rfl rfl (.mv rfl) (.p rfl rfl (.mv rfl) (.p rfl rfl (.len rfl rfl) (.p rfl rfl (.lt rfl rfl) (.nil (.code (.keep [(19, _), (0, _), (1, _), (5, _), (6, _)] ⟨rfl, rfl, rfl, rfl, rfl, trivial⟩ ?_))))))
  refine .condD rfl (fun c19 => ?_) (fun c19 => ?_)
  ·have hj : j < l.length := by omega
   obtain ⟨hyj, hyd⟩ := drop_atG hdr (by omega) hj
   obtain ⟨ue, hcs, hre⟩ := hO.at (i := j) (List.getElem?_eq_getElem (by omega))
   rw [hyj] at hre
   obtain ⟨rfl, h1, h2⟩ := tree.tChange.val hre
   have hfs := filter_stepG (q := fun x => !p x) hj
   refine .skip (.code (.seq (.block (.seq (.keep [(0, _), (1, _), (5, _), (6, _)] ⟨rfl, rfl, rfl, rfl, trivial⟩ (.region ?_))))))
   refine .p rfl rfl (.mv rfl) (.p rfl rfl (.mv rfl) (.p rfl rfl (.indexAddr (s := 3) rfl rfl rfl rfl (by omega)) (.p rfl rfl (.loadA (n := 3) rfl rfl rfl rfl rfl hcs) (.v rfl rfl (.alloc rfl rfl) ?_))))
   rintro _ w8 ⟨rfl, N8⟩
   refine .s rfl (.storeAll (n := 3) rfl rfl rfl rfl rfl N8.blk rfl) ?_
   intro w9 P8
   have X8 := N8.ext.then P8.ext (by rintro k rfl _; exact Nat.le_refl _)
   have B8 := P8.blk
   have X9 : Ext B w w9 := hX.trans (X8.mono (fun _ _ h => h.elim))
   refine .nil (.code (.seq (.keep [(7, _), (0, _), (1, _), (5, _), (6, _)] ⟨rfl, rfl, rfl, rfl, rfl, trivial⟩ (.region ?_))))
   refine .p rfl rfl (.mv rfl) (.p rfl rfl (.loadA (n := 3) rfl rfl rfl rfl rfl B8.cells) (.call (first := []) (captured := cap) rfl rfl rfl rfl (hk l[j] _ w9 (allOf (tree.tChange.ext0 hre X8)) X9) ?_))
   rintro _ w28 ⟨rfl, X28⟩
   refine .p rfl rfl (.not rfl) (.nil (.code (.keep [(29, _), (7, _), (0, _), (1, _), (5, _), (6, _)] ⟨rfl, rfl, rfl, rfl, rfl, rfl, trivial⟩ ?_)))
   refine .cond rfl (fun c29 => ?_) (fun c29 => ?_)
   ·refine .seq (.keep [(7, _), (0, _), (1, _), (5, _), (6, _)] ⟨rfl, rfl, rfl, rfl, rfl, trivial⟩ (.region ?_))
    refine .p rfl rfl (.mv rfl) (.p rfl rfl (.mv rfl) (.p rfl rfl (.loadA (n := 3) rfl rfl rfl rfl rfl (B8.ext X28 (fun x => x)).cells) (.p rfl rfl (.indexAddr (s := 3) rfl rfl rfl rfl (by omega)) (.s rfl (.storeOwn (i := i) (y' := l[j]) ((hO.ext0 X8).ext0 X28) (by omega) (by show _ = some (Value.pointer (some ⟨b, i * 3, none⟩)); rw [show i * 3 = 0 + i * 3 by omega]; rfl) rfl rfl rfl rfl (tree.tChange.ext0 hre (X8.trans X28)) (fun k hk _ e => hq k hk.1 (by rw [e]; exact hbB))) ?_))))
    rintro w33 ⟨O33, X33⟩
    refine .nil (.code (.keep [(0, _), (1, _), (5, _), (6, _)] ⟨rfl, rfl, rfl, rfl, trivial⟩ (.region ?_)))
    refine .p rfl rfl (.mv rfl) (.p rfl rfl (.add rfl rfl (by omega)) (.p rfl rfl (.as rfl) (.nil (.blk (.code (.keep [(5, _), (0, _), (1, _), (6, _)] ⟨rfl, rfl, rfl, rfl, trivial⟩ (.region ?_)))))))
    refine .p rfl rfl (.mv rfl) (.p rfl rfl (.add rfl rfl (by omega)) (.p rfl rfl (.as rfl) (.nil ?_)))
    exact (again (j + 1, i + 1, ys.set i l[j], w33) ⟨by show j + 1 ≤ _; omega, by show i + 1 < j + 1; omega, by show (ys.set i _).length = _; rw [List.length_set]; exact hyl, by show (ys.set i l[j]).take (i + 1) = _; rw [set_takeG (by omega), hfs, if_pos c29, hfl], by show (ys.set i l[j]).drop (j + 1) = _; rw [set_dropG (by omega)]; exact hyd, O33, (X9.trans (X28.mono (fun _ _ h => h.elim))).trans (X33.mono (fun k _ e => by have e : k = b := e; rw [e]; exact hbB))⟩ (by show _ - (j + 1) < _ - j; omega)).of ⟨rfl, rfl, rfl, rfl, trivial⟩
   ·refine .skip (.blk (.code (.keep [(0, _), (1, _), (5, _), (6, _)] ⟨rfl, rfl, rfl, rfl, trivial⟩ (.region ?_))))
    refine .p rfl rfl (.mv rfl) (.p rfl rfl (.add rfl rfl (by omega)) (.p rfl rfl (.as rfl) (.nil ?_)))
    exact (again (j + 1, i, ys, w28) ⟨by show j + 1 ≤ _; omega, by show i < j + 1; omega, hyl, by show ys.take i = _; rw [hfs, if_neg (by rw [c29]; exact Bool.false_ne_true), List.append_nil, hfl], hyd, (hO.ext0 X8).ext0 X28, X9.trans (X28.mono (fun _ _ h => h.elim))⟩ (by show _ - (j + 1) < _ - j; omega)).of ⟨rfl, rfl, rfl, rfl, trivial⟩
  ·obtain rfl : j = l.length := by omega
   rw [List.take_length] at hfl
   refine .exit rfl (.code (.seq (.keep [(0, _), (5, _)] ⟨rfl, rfl, trivial⟩ (.region ?_))))
   refine .p rfl rfl (.mv rfl) (.p rfl rfl (.mv rfl) (.p rfl rfl (.cast (.cutLo (s := 3) rfl rfl rfl rfl (by omega)) (show cutV 3 (some ⟨b, 0, none⟩) cap1 ((i : Nat) : Int).toNat l.length = cutV tree.tChange.size (some ⟨b, 0, none⟩) cap1 i l.length from rfl)) (.w rfl (.clearOwn hO (by omega) rfl (fun k hk _ e => hq k hk.1 (by rw [e]; exact hbB)) rfl rfl rfl rfl rfl) ?_)))
   rintro _ wc ⟨Oc, Xc⟩
   refine .nil (.code (.seq (.keep [(0, _), (5, _)] ⟨rfl, rfl, trivial⟩ (.region ?_))))
   refine .p rfl rfl (.mv rfl) (.p rfl rfl (.mv rfl) (.p rfl rfl (.cast (.cutHi (s := 3) rfl rfl rfl rfl (by omega)) (show cutV 3 (some ⟨b, 0, none⟩) cap1 0 ((i : Nat) : Int).toNat = .slice (some ⟨b, 0, none⟩) i cap1 from cutV_zero)) (.p rfl rfl (.as rfl) (.nil (.code ?_)))))
   refine .ret _ rfl ?_
   rw [← hfl]
   exact ⟨OwnO.of Oc hbB, hX.trans (Xc.mono (fun k _ e => by have e : k = b := e; rw [e]; exact hbB))⟩
theorem turned1_fn {w : World} {c m : Nat} {ks : List Bs} {u : Value} {x : File} (h : tFile.rep All w u x) (hc : Blk w c 143 [.map (some m)]) (hm : MapV str w m (ks.map (fun k => (k, .bool true)))) : Fn Tryz.prog 85 ([] ++ [u] ++ [.pointer (some ⟨c, 0, none⟩)]) w (fun r w2 => r = .bool (decide (x.name ∈ ks)) ∧ Ext (fun _ => False) w w2) := by
 obtain ⟨a, cap, rfl, _, hnm, _⟩ := tFile.val h
 refine Fn.enter (fun w => Tryz.call85 _ w) Tryz.func85 rfl ?_
 refine .seq (.region ?_)
 refine .v rfl rfl (.box rfl) ?_
 rintro _ w2 ⟨rfl, N2⟩
 have B2 := N2.blk
 have X2 := N2.ext
 have z2 := N2.size
 refine .p rfl rfl (.as rfl) (.nil (.code (.seq (.keep [(2, _), (1, _)] ⟨rfl, rfl, trivial⟩ (.region ?_)))))
 refine .p rfl rfl (.load rfl rfl rfl ((hc.ext X2 (fun x => x)).cell 0)) (.p rfl rfl (.fieldAddr rfl rfl rfl rfl) (.p rfl rfl (.load rfl rfl rfl (B2.cell 0)) (.p rfl rfl (.lookSet (ks := ks) (hm.ext X2 (fun x => x)) str_key str_inj' rfl rfl rfl rfl rfl rfl) (.p rfl rfl (.as rfl) (.nil (.code ?_))))))
 refine .ret _ rfl ?_
 exact ⟨rfl, X2⟩
theorem gone2_fn {w : World} {u : Value} {x : Change} (h : tree.tChange.rep All w u x) : Fn Tryz.prog 88 ([] ++ [u] ++ []) w (fun r w2 => r = .bool x.gone ∧ Ext (fun _ => False) w w2) := by
 obtain ⟨rfl, h1, h2⟩ := tree.tChange.val h
 refine Fn.enter (fun w => Tryz.call88 _ w) Tryz.func88 rfl ?_
 refine .seq (.region ?_)
 refine .v rfl rfl (.box rfl) ?_
 rintro _ w1 ⟨rfl, N1⟩
 have B1 := N1.blk
 have X1 := N1.ext
 have z1 := N1.size
 refine .p rfl rfl (.as rfl) (.nil (.code (.seq (.keep [(1, _)] ⟨rfl, trivial⟩ (.region ?_)))))
 refine .p rfl rfl (.fieldAddr rfl rfl rfl rfl) (.p rfl rfl (.load rfl rfl rfl (B1.cell 2)) (.p rfl rfl (.as rfl) (.nil (.code ?_))))
 refine .ret _ rfl ?_
 exact ⟨rfl, X1⟩
theorem named_fn {w : World} {v vl : Value} {x : Dir} {l : List Change} (h : tDir.rep All w v x) (hl : (Sl tree.tChange).rep All w vl l) : Fn Tryz.prog 82 [v, vl] w (fun r w2 => ∃ mv, r = .tuple #[mv, i64 (wrongF x l)] ∧ (wrongF x l = 0 → ∃ m, mv = .map (some m) ∧ w.heap.size ≤ m ∧ MapV str w2 m ((l.map (·.key)).map (fun k => (k, .bool true)))) ∧ mv.oneCell' = true ∧ mv.cells = #[mv] ∧ Ext (fun _ => False) w w2) := by
 have h0 := h
 obtain ⟨a, cap, rfl, hf, hg⟩ := tDir.val h
 obtain ⟨al, kl, rfl, hkl⟩ := Sl.val hl
 have hlim := Sl.lim hl
 simp only [Lim] at hlim
 refine Fn.enter (fun w => Tryz.call82 _ w) Tryz.func82 rfl ?_
 refine .seq (.region ?_)
 refine .v rfl rfl (.box rfl) ?_
 rintro _ w2 ⟨rfl, N2⟩
 have B2 := N2.blk
 have X2 := N2.ext
 have z2 := N2.size
 refine .p rfl rfl (.as rfl) (.p rfl rfl (.as rfl) (.nil (.code (.seq (.seq (.keep [(2, _), (1, _)] ⟨rfl, rfl, trivial⟩ (.region ?_)))))))
 refine .p rfl rfl (.mv rfl) (.p rfl rfl (.len rfl rfl) (.p rfl rfl (.gt rfl rfl) (.nil (.code (.keep [(11, _), (2, _), (1, _)] ⟨rfl, rfl, rfl, trivial⟩ ?_)))))
 refine .condD rfl (fun c11 => ?_) (fun c11 => ?_)
 ·refine .seq (.keep [] trivial (.region ?_))
  refine .p rfl rfl (.as rfl) (.p rfl rfl (.as rfl) (.nil (.code ?_)))
  refine .ret _ rfl ?_
  have he : wrongF x l = 4 := by unfold wrongF; rw [if_pos (by omega)]
  rw [he]
  exact ⟨_, rfl, fun h => absurd h (by decide), rfl, rfl, X2⟩
 ·have h64 : ¬ 64 < l.length := by omega
  refine .skip (.code (.seq (.keep [(2, _), (1, _)] ⟨rfl, rfl, trivial⟩ (.region ?_))))
  refine .v rfl rfl (.makeMap (K := str) trivial) ?_
  rintro _ w12 ⟨rfl, M12, X12, z12⟩
  refine .p rfl rfl (.as rfl) (.nil (.code (.seq (.seq (.keep [(6, _), (2, _), (1, _)] ⟨rfl, rfl, rfl, trivial⟩ (.region ?_))))))
  refine .p rfl rfl (.mv rfl) (.p rfl rfl (.len rfl rfl) (.p rfl rfl (.mv rfl) (.nil (.code (.block (.keep [(15, _), (14, _), (13, _), (6, _), (2, _)] ⟨rfl, rfl, rfl, rfl, rfl, trivial⟩ ?_))))))
  refine .loop (S := Nat × World) (fun s => [(2, .pointer (some ⟨w.heap.size, 0, none⟩)), (6, .map (some w2.heap.size)), (13, .slice al l.length kl), (14, i64 l.length), (15, i64 s.1)]) (fun s => s.2) (fun s => s.1 ≤ l.length ∧ chgW x [] l = chgW x ((l.take s.1).map (·.key)) (l.drop s.1) ∧ MapV str s.2 w2.heap.size (((l.take s.1).map (·.key)).map (fun k => (k, .bool true))) ∧ Ext (fun _ => False) w2 s.2) (fun s => l.length - s.1) (0, w12) ⟨rfl, rfl, rfl, rfl, rfl, trivial⟩ rfl ⟨Nat.zero_le _, rfl, M12, X12⟩ ?_
  rintro ⟨i, wi⟩ J ⟨hi', hw, hM, hX⟩ again
  simp only at hi' hw hM hX
  have zi := hX.size
  change G _ [(2, .pointer (some ⟨w.heap.size, 0, none⟩)), (6, .map (some w2.heap.size)), (13, .slice al l.length kl), (14, i64 l.length), (15, i64 i)] _ _ wi
  refine .seq (.region ?_)
  refine .p rfl rfl (.lt rfl rfl) (.nil (.code (.seq ?_)))
  refine .condD rfl (fun c16 => ?_) (fun c16 => ?_)
  ·have hi : i < l.length := by omega
   obtain ⟨b1, o1, q1, ue1, e1, _, hcs, hre⟩ := Sl.at hl (List.getElem?_eq_getElem hi)
   cases e1
   obtain ⟨rfl, hk1, hv1⟩ := tree.tChange.val hre
   refine .skip (.code (.seq (.block (.seq (.keep [(2, _), (6, _), (13, _), (14, _), (15, _)] ⟨rfl, rfl, rfl, rfl, rfl, trivial⟩ (.region ?_))))))
   refine .p rfl rfl (.indexAddr (s := 3) rfl rfl rfl rfl (by omega)) (.p rfl rfl (.loadA (n := 3) rfl rfl rfl rfl rfl (hcs.ext (Ext.trans X2 hX) (fun x => x))) (.v rfl rfl (.alloc rfl rfl) ?_))
   rintro _ wn8 ⟨rfl, N8⟩
   refine .s rfl (.storeAll (n := 3) rfl rfl rfl rfl rfl N8.blk rfl) ?_
   intro w8 P8
   have Y8 := N8.ext.then P8.ext (by rintro k rfl _; exact Nat.le_refl _)
   have zy8 := Y8.size
   have B8 := P8.blk
   clear P8 N8
   refine .nil (.code (.seq (.block (.seq (.keep [(8, _), (2, _), (6, _), (13, _), (14, _), (15, _)] ⟨rfl, rfl, rfl, rfl, rfl, rfl, trivial⟩ (.region ?_))))))
   refine .p rfl rfl (.fieldAddr rfl rfl rfl rfl) (.p rfl rfl (.load rfl rfl rfl (B8.cell 0)) (.call (first := []) (captured := []) rfl rfl rfl rfl (name_fn hk1) ?_))
   rintro _ w22 ⟨rfl, X22⟩
   have z22 := X22.size
   refine .p rfl rfl (.not rfl) (.p rfl rfl (.as rfl) (.nil (.code (.keep [(19, _), (8, _), (2, _), (6, _), (13, _), (14, _), (15, _)] ⟨rfl, rfl, rfl, rfl, rfl, rfl, rfl, trivial⟩ ?_))))
   refine .cond rfl (fun c19 => ?_) (fun c19 => ?_)
   ·refine .seq (.keep [] trivial (.region ?_))
    refine .p rfl rfl (.as rfl) (.p rfl rfl (.as rfl) (.nil (.code ?_)))
    refine .ret _ rfl ?_
    have he : wrongF x l = 5 := by rw [wrongF_c h64]; exact chgW_err hi hw (by unfold oneW; rw [if_pos (fun h => by rw [h] at c19; cases c19)]) (by decide)
    rw [he]
    exact ⟨_, rfl, fun h => absurd h (by decide), rfl, rfl, (by repeat (first | exact Ext.refl _ | assumption | refine Ext.trans (by assumption) ?_))⟩
   ·have hnm : nameF l[i].key = true := by simpa using c19
    refine .seq (.keep [(8, _), (2, _), (6, _), (13, _), (14, _), (15, _)] ⟨rfl, rfl, rfl, rfl, rfl, rfl, trivial⟩ (.region ?_))
    refine .p rfl rfl (.mv rfl) (.p rfl rfl (.fieldAddr rfl rfl rfl rfl) (.p rfl rfl (.load rfl rfl rfl ((B8.ext X22 (fun x => x)).cell 0)) (.p rfl rfl (.lookSet (ks := ((l.take i).map (·.key))) ((hM.ext Y8 (fun x => x)).ext X22 (fun x => x)) str_key str_inj' rfl rfl rfl rfl rfl rfl) (.p rfl rfl (.as rfl) (.nil (.code (.keep [(24, _), (8, _), (2, _), (6, _), (13, _), (14, _), (15, _)] ⟨rfl, rfl, rfl, rfl, rfl, rfl, rfl, trivial⟩ ?_)))))))
    refine .condD rfl (fun c24 => ?_) (fun c24 => ?_)
    ·refine .seq (.keep [] trivial (.region ?_))
     refine .p rfl rfl (.as rfl) (.p rfl rfl (.as rfl) (.nil (.code ?_)))
     refine .ret _ rfl ?_
     have he : wrongF x l = 8 := by rw [wrongF_c h64]; exact chgW_err hi hw (by unfold oneW; rw [if_neg (fun h => h hnm), if_pos c24]) (by decide)
     rw [he]
     exact ⟨_, rfl, fun h => absurd h (by decide), rfl, rfl, (by repeat (first | exact Ext.refl _ | assumption | refine Ext.trans (by assumption) ?_))⟩
    ·have hnew : ∀ p ∈ ((l.take i).map (·.key)).map (fun k => (k, Value.bool true)), p.1 ≠ l[i].key := fun p hp e => by obtain ⟨k, hk, rfl⟩ := List.mem_map.1 hp; exact c24 (by rw [← e]; exact hk)
     refine .seq (.keep [(8, _), (2, _), (6, _), (13, _), (14, _), (15, _)] ⟨rfl, rfl, rfl, rfl, rfl, rfl, trivial⟩ (.region ?_))
     refine .p rfl rfl (.fieldAddr rfl rfl rfl rfl) (.p rfl rfl (.load rfl rfl rfl ((B8.ext X22 (fun x => x)).cell 2)) (.p rfl rfl (.mv rfl) ?_))
     refine .case 32 rfl (fun c32 => ?_) (fun c32 => ?_)
     ·refine .p rfl rfl (.loadA (n := 2) rfl rfl rfl rfl rfl (B2.ext (S := fun _ => False) (by repeat (first | exact Ext.refl _ | assumption | refine Ext.trans (by assumption) ?_)) (fun x => x)).cells) ?_
      refine .p rfl rfl (.fieldAddr rfl rfl rfl rfl) (.p rfl rfl (.load rfl rfl rfl ((B8.ext X22 (fun x => x)).cell 0)) (.call (first := []) (captured := []) rfl rfl rfl rfl (find_fn (x := x) (s := l[i].key) (tDir.ext0 h0 (by repeat (first | exact Ext.refl _ | assumption | refine Ext.trans (by assumption) ?_)))) ?_))
      rintro _ w36 ⟨rfl, X36⟩
      have z36 := X36.size
      refine .p rfl rfl (.lt rfl rfl) (.p rfl rfl (.pickT rfl rfl) (.p rfl rfl (.as rfl) (.nil (.code (.keep [(29, _), (8, _), (2, _), (6, _), (13, _), (14, _), (15, _)] ⟨rfl, rfl, rfl, rfl, rfl, rfl, rfl, trivial⟩ ?_)))))
      refine .condD rfl (fun c29 => ?_) (fun c29 => ?_)
      ·refine .seq (.keep [] trivial (.region ?_))
       refine .p rfl rfl (.as rfl) (.p rfl rfl (.as rfl) (.nil (.code ?_)))
       refine .ret _ rfl ?_
       have he : wrongF x l = 6 := by rw [wrongF_c h64]; exact chgW_err hi hw (by unfold oneW; rw [if_neg (fun h => h hnm), if_neg c24, if_pos ⟨c32, c29⟩]) (by decide)
       rw [he]
       exact ⟨_, rfl, fun h => absurd h (by decide), rfl, rfl, (by repeat (first | exact Ext.refl _ | assumption | refine Ext.trans (by assumption) ?_))⟩
      ·refine .skip (.blk (.code (.keep [(8, _), (2, _), (6, _), (13, _), (14, _), (15, _)] ⟨rfl, rfl, rfl, rfl, rfl, rfl, trivial⟩ (.region ?_))))
       refine .p rfl rfl (.mv rfl) (.p rfl rfl (.fieldAddr rfl rfl rfl rfl) (.p rfl rfl (.load rfl rfl rfl ((B8.ext (S := fun _ => False) (by repeat (first | exact Ext.refl _ | assumption | refine Ext.trans (by assumption) ?_)) (fun x => x)).cell 0)) ?_))
       refine .s rfl (.mapPush (k := l[i].key) (v := .bool true) ((hM.ext Y8 (fun x => x)).ext (S := fun _ => False) (by repeat (first | exact Ext.refl _ | assumption | refine Ext.trans (by assumption) ?_)) (fun x => x)) str_key str_inj' hnew rfl rfl rfl rfl rfl) ?_
       rintro w13 ⟨M13, X13, z13⟩
       refine .nil (.blk (.code (.keep [(2, _), (6, _), (13, _), (14, _), (15, _)] ⟨rfl, rfl, rfl, rfl, rfl, trivial⟩ (.region ?_))))
       refine .p rfl rfl (.add rfl rfl (by omega)) (.p rfl rfl (.mv rfl) (.nil ?_))
       refine (again (i + 1, w13) ⟨by show i + 1 ≤ _; omega, by show chgW x [] l = chgW x ((l.take (i + 1)).map (·.key)) (l.drop (i + 1)); rw [keysC_step hi]; exact chgW_ok hi hw (by unfold oneW; rw [if_neg (fun h => h hnm), if_neg c24, if_neg (fun h => c29 h.2)]), by show MapV _ _ _ ((((l.take (i + 1)).map (·.key))).map _); rw [keysC_step hi, List.map_append]; exact M13, Ext.then (S := (· = w2.heap.size)) (by repeat (first | exact Ext.refl _ | assumption | refine Ext.trans (by assumption) ?_)) X13 (by rintro k rfl _; exact Nat.le_refl _)⟩ (by show _ - (i + 1) < _ - i; omega)).of ⟨rfl, rfl, rfl, rfl, rfl, trivial⟩
     ·refine .skip rfl rfl (.skip rfl rfl (.skip rfl rfl (.skip rfl rfl (.skip rfl rfl (.p rfl rfl (.pickF rfl rfl) (.p rfl rfl (.as rfl) (.nil (.code (.keep [(29, _), (8, _), (2, _), (6, _), (13, _), (14, _), (15, _)] ⟨rfl, rfl, rfl, rfl, rfl, rfl, rfl, trivial⟩ (.condF rfl (.skip (.blk (.code (.keep [(8, _), (2, _), (6, _), (13, _), (14, _), (15, _)] ⟨rfl, rfl, rfl, rfl, rfl, rfl, trivial⟩ (.region ?_)))))))))))))))
      refine .p rfl rfl (.mv rfl) (.p rfl rfl (.fieldAddr rfl rfl rfl rfl) (.p rfl rfl (.load rfl rfl rfl ((B8.ext (S := fun _ => False) (by repeat (first | exact Ext.refl _ | assumption | refine Ext.trans (by assumption) ?_)) (fun x => x)).cell 0)) ?_))
      refine .s rfl (.mapPush (k := l[i].key) (v := .bool true) ((hM.ext Y8 (fun x => x)).ext (S := fun _ => False) (by repeat (first | exact Ext.refl _ | assumption | refine Ext.trans (by assumption) ?_)) (fun x => x)) str_key str_inj' hnew rfl rfl rfl rfl rfl) ?_
      rintro w13 ⟨M13, X13, z13⟩
      refine .nil (.blk (.code (.keep [(2, _), (6, _), (13, _), (14, _), (15, _)] ⟨rfl, rfl, rfl, rfl, rfl, trivial⟩ (.region ?_))))
      refine .p rfl rfl (.add rfl rfl (by omega)) (.p rfl rfl (.mv rfl) (.nil ?_))
      refine (again (i + 1, w13) ⟨by show i + 1 ≤ _; omega, by show chgW x [] l = chgW x ((l.take (i + 1)).map (·.key)) (l.drop (i + 1)); rw [keysC_step hi]; exact chgW_ok hi hw (by unfold oneW; rw [if_neg (fun h => h hnm), if_neg c24, if_neg (fun h => by rw [c32] at h; cases h.1)]), by show MapV _ _ _ ((((l.take (i + 1)).map (·.key))).map _); rw [keysC_step hi, List.map_append]; exact M13, Ext.then (S := (· = w2.heap.size)) (by repeat (first | exact Ext.refl _ | assumption | refine Ext.trans (by assumption) ?_)) X13 (by rintro k rfl _; exact Nat.le_refl _)⟩ (by show _ - (i + 1) < _ - i; omega)).of ⟨rfl, rfl, rfl, rfl, rfl, trivial⟩
  ·obtain rfl : i = l.length := by omega
   rw [List.take_length] at hM
   rw [List.take_length, List.drop_length] at hw
   refine .exit rfl (.code (.seq (.keep [(6, _)] ⟨rfl, trivial⟩ (.region ?_))))
   refine .p rfl rfl (.mv rfl) (.p rfl rfl (.as rfl) (.p rfl rfl (.as rfl) (.nil (.code ?_))))
   refine .ret _ rfl ?_
   have he : wrongF x l = 0 := by rw [wrongF_c h64, hw]; rfl
   rw [he]
   exact ⟨_, rfl, fun _ => ⟨w2.heap.size, rfl, by omega, hM⟩, rfl, rfl, (by repeat (first | exact Ext.refl _ | assumption | refine Ext.trans (by assumption) ?_))⟩
end Go.Proofs.YtpfehnopghffjaaGreatDoor
namespace Go.Proofs.YtpfehnopghffjaaGreatDoor
open Go Go.Sort
namespace files
abbrev FV := Bs × Int × Option Addr × Nat × Nat
instance : Inhabited FV := ⟨⟨[], 0, none, 0, 0⟩⟩
def encF (p : FV) : List Value := [str p.1, i64 p.2.1, .slice p.2.2.1 p.2.2.2.1 p.2.2.2.2]
def flatF (xs : List FV) : List Value := xs.flatMap encF
theorem flatF_length (xs : List FV) : (flatF xs).length = xs.length * 3 := by
 induction xs with
 | nil => rfl
 | cons p xs ih => simp only [flatF, List.flatMap_cons, List.length_append, List.length_cons] at *; rw [ih]; simp [encF]; omega
theorem flatF_get (xs : List FV) : ∀ (j : Nat), j < xs.length * 3 → (flatF xs)[j]? = some ((encF (xs.toArray[j / 3]!))[j % 3]!) := by
 induction xs with
 | nil => intro j hj; simp at hj
 | cons p xs ih =>
  intro j hj
  rcases Nat.lt_or_ge j 3 with h | h
  ·match j, h with
   | 0, _ => rfl
   | 1, _ => rfl
   | 2, _ => rfl
  ·obtain ⟨k, rfl⟩ : ∃ k, j = k + 3 := ⟨j - 3, by omega⟩
   have e1 : (flatF (p :: xs))[k + 3]? = (flatF xs)[k]? := by simp [flatF, encF]
   have e2 : (k + 3) / 3 = k / 3 + 1 := by omega
   have e3 : (k + 3) % 3 = k % 3 := by omega
   rw [e1, e2, e3, ih k (by simp at hj; omega)]
   congr 2
   simp
theorem flatKF_get (xs : List FV) (j : Nat) (hj : j < xs.length * 3) : (flatK encF 3 xs.toArray)[j]! = (encF (xs.toArray[j / 3]!))[j % 3]! := by
 unfold flatK
 have hs : j < xs.toArray.size * 3 := by simpa using hj
 simp [hs, hj]
theorem flatKF_size (xs : List FV) : (flatK encF 3 xs.toArray).size = xs.length * 3 := by simp [flatK]
theorem holdsKF_of {w : World} {b : Nat} {E : TypeId} {xs : List FV} {sp : List Value} (hB : Blk w b E (flatF xs ++ sp)) : HoldsK encF 3 w b 0 xs.toArray := by
 intro j hj
 rw [flatKF_size] at hj
 have hl := flatF_length xs
 refine ⟨?_, ?_⟩
 ·rw [Nat.zero_add, hB.cell, List.getElem?_append_left (by omega), flatF_get xs j hj, flatKF_get xs j hj]
  rfl
 ·rw [Nat.zero_add]
  exact hB.thawed j (by rw [List.length_append]; omega)
theorem putCells_listF (xs ys : List FV) (sp : List Value) (hl : ys.length = xs.length) : Sort.putCells id 0 (flatK encF 3 ys.toArray) (flatF xs ++ sp).toArray = (flatF ys ++ sp).toArray := by
 have h1 := flatF_length xs
 have h2 := flatF_length ys
 apply Array.ext_getElem?
 intro k
 unfold Sort.putCells
 rw [Array.getElem?_mapIdx]
 simp only [List.getElem?_toArray]
 rcases Nat.lt_or_ge k (ys.length * 3) with h | h
 ·rw [List.getElem?_append_left (by omega), List.getElem?_append_left (by omega), flatF_get ys k h, List.getElem?_eq_getElem (by omega)]
  simp only [Option.map_some]
  rw [if_pos ⟨Nat.zero_le _, by rw [flatKF_size]; omega⟩]
  simp only [id, Nat.sub_zero]
  rw [flatKF_get ys k h]
 ·rw [List.getElem?_append_right (by omega), List.getElem?_append_right (by omega), h1, h2, hl]
  cases hsp : sp[k - xs.length * 3]? with
  | none => rfl
  | some x =>
   simp only [Option.map_some]
   rw [if_neg (by rw [flatKF_size]; omega)]
theorem sorted_worldF {w w' : World} {b n : Nat} {E : TypeId} {xs ys : List FV} {sp : List Value} {os : Array Obj} (hs : Same w w') (hB : Blk w b E (flatF xs ++ sp)) (hl : ys.length = xs.length) :
  Blk (sortWorldK encF 3 w' b 0 n ys.toArray os) b E (flatF ys ++ sp) ∧ Ext (· = b) w (sortWorldK encF 3 w' b 0 n ys.toArray os) := by
 have hlt := hB.lt
 have hB' : Blk w' b E (flatF xs ++ sp) := hB.keep (by rw [hs.heap])
 obtain ⟨fr, hh, hfz⟩ := hB'.heap
 have hlen : (flatF ys ++ sp).length = (flatF xs ++ sp).length := by rw [List.length_append, List.length_append, flatF_length, flatF_length, hl]
 have hsz : w'.heap.size = w.heap.size := by rw [hs.heap]
 have hheap : ∀ k, k < w.heap.size → (sortWorldK encF 3 w' b 0 n ys.toArray os).heap[k]? = if k = b then some (.cells (flatF ys ++ sp).toArray E fr) else w'.heap[k]? := by
  intro k hk
  show ((w'.heap.modify b _) ++ os)[k]? = _
  rw [Array.getElem?_append_left (by simp; omega), Array.getElem?_modify]
  by_cases hkb : b = k
  ·subst hkb
   rw [if_pos rfl, if_pos rfl, hh]
   simp only [Option.map_some, onCells]
   rw [putCells_listF xs ys sp hl]
  ·rw [if_neg hkb, if_neg (fun h => hkb h.symm)]
 refine ⟨?_, ?_⟩
 ·have h0 := hheap b hlt
  rw [if_pos rfl] at h0
  obtain ⟨fr', h1 | h1⟩ := hB'
  ·obtain ⟨h1, h2⟩ := h1
   rw [hh] at h1
   injection h1 with h1
   injection h1 with _ _ h1
   subst h1
   exact ⟨fr, .inl ⟨h0, by rw [hlen]; exact h2⟩⟩
  ·obtain ⟨h1, h2⟩ := h1
   rw [hh] at h1
   injection h1 with h1
   injection h1 with _ _ h1
   subst h1
   exact ⟨fr, .inr ⟨h0, h2⟩⟩
 ·refine ⟨hs.os, hs.tape, hs.output, ?_, fun k hk hn => ?_⟩
  ·show w.heap.size ≤ ((w'.heap.modify b _) ++ os).size
   simp; omega
  ·rw [hheap k hk, if_neg hn, hs.heap]
end files
end Go.Proofs.YtpfehnopghffjaaGreatDoor
namespace Go.Proofs.YtpfehnopghffjaaGreatDoor
open Go Go.Proofs Go.Shelf Go.RowKit Go.Lib Go.Sort
def sortF_ren : Go.Shelf.Ren := ⟨fun | 6 => 92 | 14 => 133 | 15 => 134 | 20 => 155 | 21 => 156 | 22 => 157 | 23 => 158 | 24 => 159 | 25 => 160 | 26 => 161 | 27 => 162 | 28 => 163 | 29 => 164 | 46 => 175 | 47 => 176 | 48 => 177 | 49 => 178 | 50 => 179 | 57 => 191 | n => n, fun | 0 => 0 | 3 => 3 | 4 => 4 | 5 => 5 | 9 => 9 | 22 => 22 | 24 => 28 | 25 => 156 | 39 => 177 | 45 => 225 | 46 => 226 | 50 => 230 | 53 => 233 | 55 => 99 | 66 => 253 | 70 => 257 | 76 => 265 | 77 => 56 | n => n, fun n => n⟩
theorem sortF : SlLaysF0.n6 Tryz.prog sortF_ren where
 mixed := by kernel_rfl
 f6 := ⟨ "slices.SortFunc[[]docket/api.File,docket/api.File]", by decide, Tryz.func92.trans (congrArg some (by kernel_rfl))⟩
 f14 := ⟨ "slices.pdqsortCmpFunc[docket/api.File]", by decide, Tryz.func133.trans (congrArg some (by kernel_rfl))⟩
 f15 := Tryz.func134.trans (congrArg some (by kernel_rfl))
 f20 := ⟨ "slices.insertionSortCmpFunc[docket/api.File]", by decide, Tryz.func155.trans (congrArg some (by kernel_rfl))⟩
 f21 := ⟨ "slices.heapSortCmpFunc[docket/api.File]", by decide, Tryz.func156.trans (congrArg some (by kernel_rfl))⟩
 f22 := ⟨ "slices.breakPatternsCmpFunc[docket/api.File]", by decide, Tryz.func157.trans (congrArg some (by kernel_rfl))⟩
 f23 := ⟨ "slices.choosePivotCmpFunc[docket/api.File]", by decide, Tryz.func158.trans (congrArg some (by kernel_rfl))⟩
 f24 := ⟨ "slices.reverseRangeCmpFunc[docket/api.File]", by decide, Tryz.func159.trans (congrArg some (by kernel_rfl))⟩
 f25 := ⟨ "slices.partialInsertionSortCmpFunc[docket/api.File]", by decide, Tryz.func160.trans (congrArg some (by kernel_rfl))⟩
 f26 := ⟨ "slices.partitionEqualCmpFunc[docket/api.File]", by decide, Tryz.func161.trans (congrArg some (by kernel_rfl))⟩
 f27 := ⟨ "slices.partitionCmpFunc[docket/api.File]", by decide, Tryz.func162.trans (congrArg some (by kernel_rfl))⟩
 f28 := Tryz.func163.trans (congrArg some (by kernel_rfl))
 f29 := Tryz.func164.trans (congrArg some (by kernel_rfl))
 f46 := ⟨ "slices.siftDownCmpFunc[docket/api.File]", by decide, Tryz.func175.trans (congrArg some (by kernel_rfl))⟩
 f47 := Tryz.func176.trans (congrArg some (by kernel_rfl))
 f48 := Tryz.func177.trans (congrArg some (by kernel_rfl))
 f49 := ⟨ "slices.medianAdjacentCmpFunc[docket/api.File]", by decide, Tryz.func178.trans (congrArg some (by kernel_rfl))⟩
 f50 := ⟨ "slices.medianCmpFunc[docket/api.File]", by decide, Tryz.func179.trans (congrArg some (by kernel_rfl))⟩
 f57 := ⟨ "slices.order2CmpFunc[docket/api.File]", by decide, Tryz.func191.trans (congrArg some (by kernel_rfl))⟩
 t0 := Tryz.underlying0
 a0 := Tryz.isAgg0
 z0 := Tryz.sizeOf0
 v0 := Tryz.zeroValue0
 t3 := Tryz.underlying3
 a3 := Tryz.isAgg3
 z3 := Tryz.sizeOf3
 v3 := Tryz.zeroValue3
 t4 := Tryz.underlying4
 a4 := Tryz.isAgg4
 z4 := Tryz.sizeOf4
 v4 := Tryz.zeroValue4
 t5 := Tryz.underlying5
 a5 := Tryz.isAgg5
 z5 := Tryz.sizeOf5
 v5 := Tryz.zeroValue5
 t9 := Tryz.underlying9
 a9 := Tryz.isAgg9
 z9 := Tryz.sizeOf9
 v9 := Tryz.zeroValue9
 t22 := Tryz.underlying22
 a22 := Tryz.isAgg22
 z22 := Tryz.sizeOf22
 v22 := Tryz.zeroValue22
 t25 := Tryz.underlying156
 a25 := Tryz.isAgg156
 z25 := Tryz.sizeOf156
 v25 := Tryz.zeroValue156
 t39 := Tryz.underlying177
 a39 := Tryz.isAgg177
 z39 := Tryz.sizeOf177
 v39 := Tryz.zeroValue177
 t45 := Tryz.underlying225
 a45 := Tryz.isAgg225
 z45 := Tryz.sizeOf225
 v45 := Tryz.zeroValue225
 t46 := Tryz.underlying226
 a46 := Tryz.isAgg226
 z46 := Tryz.sizeOf226
 v46 := Tryz.zeroValue226
 t50 := Tryz.underlying230
 a50 := Tryz.isAgg230
 z50 := Tryz.sizeOf230
 v50 := Tryz.zeroValue230
 t53 := Tryz.underlying233
 a53 := Tryz.isAgg233
 z53 := Tryz.sizeOf233
 v53 := Tryz.zeroValue233
 t55 := Tryz.underlying99
 a55 := Tryz.isAgg99
 z55 := Tryz.sizeOf99
 v55 := Tryz.zeroValue99
 t66 := Tryz.underlying253
 a66 := Tryz.isAgg253
 z66 := Tryz.sizeOf253
 v66 := Tryz.zeroValue253
 t70 := Tryz.underlying257
 a70 := Tryz.isAgg257
 z70 := Tryz.sizeOf257
 v70 := Tryz.zeroValue257
 t76 := Tryz.underlying265
 a76 := Tryz.isAgg265
 z76 := Tryz.sizeOf265
 v76 := Tryz.zeroValue265
 t77 := Tryz.underlying56
 a77 := Tryz.isAgg56
 z77 := Tryz.sizeOf56
 v77 := Tryz.zeroValue56
namespace files
theorem cmp_less : ∀ a b : Bs, Lib.compareBytes a b < 0 ↔ Op.bytesLess a b = true
 | [], [] => by simp [Lib.compareBytes, Op.bytesLess]
 | [], _ :: _ => by simp [Lib.compareBytes, Op.bytesLess]
 | _ :: _, [] => by simp [Lib.compareBytes, Op.bytesLess]
 | a :: x, b :: y => by
  rw [bl_cons]
  unfold Lib.compareBytes
  have ih := cmp_less x y
  by_cases h1 : a < b
  ·rw [if_pos h1]; exact ⟨fun _ => .inl h1, fun _ => by decide⟩
  ·by_cases h2 : b < a
   ·rw [if_neg h1, if_pos h2]
    refine ⟨fun h => absurd h (by decide), fun h => ?_⟩
    rcases h with h | ⟨rfl, _⟩
    ·exact absurd h h1
    ·exact absurd h2 (UInt8.lt_irrefl _)
   ·rw [if_neg h1, if_neg h2, ih]
    have e : a = b := UInt8.le_antisymm (UInt8.not_lt.1 h2) (UInt8.not_lt.1 h1)
    exact ⟨fun h => .inr ⟨e, h⟩, fun h => h.elim (fun h => absurd h h1) (fun h => h.2)⟩
theorem ltNm (x y : FV) : ltOf (fun x y : FV => Lib.compareBytes x.1 y.1) x y = Op.bytesLess x.1 y.1 := by
 unfold ltOf
 have := cmp_less x.1 y.1
 cases h : Op.bytesLess x.1 y.1 with
 | true => rw [h] at this; exact decide_eq_true (this.2 rfl)
 | false => rw [h] at this; exact decide_eq_false (fun hx => by cases this.1 hx)
theorem swoNm : SWO (ltOf fun x y : FV => Lib.compareBytes x.1 y.1) where
 irrefl x := by rw [ltNm]; have := bl_irr x.1; simpa using this
 trans x y z h1 h2 := by rw [ltNm] at *; exact bl_trans h1 h2
 ntrans x y z h1 h2 := by
  rw [ltNm] at *
  cases h : Op.bytesLess x.1 z.1 with
  | false => rfl
  | true =>
   rcases bl_tri y.1 x.1 with h3 | h3 | h3
   ·have := bl_trans h3 h; rw [this] at h2; cases h2
   ·rw [← h3] at h; rw [h] at h2; cases h2
   ·rw [h3] at h1; cases h1
set_option maxHeartbeats 1000000 in
theorem cmpStr_calls (a b : Bs) (w : World) : Calls Tryz.prog 135 #[str a, str b] w fun e w' => e = .returned (.int .i64 (Lib.compareBytes a b)) ∧ w' = w := by
 have h1 : (bs a).data.toList = a := by simp [bs]
 have h2 : (bs b).data.toList = b := by simp [bs]
 go_enter Tryz.func135, Tryz.ntmps135
 go_wp2
 rw [run_callFunc_extern Tryz.func165 (by kernel_rfl) (by kernel_rfl) (by kernel_rfl) (e := Extern.BytealgCompare.compare) (by kernel_rfl), show str a = .string (bs a) from rfl, show str b = .string (bs b) from rfl, Lib.run_compareString]
 simp only [Result.andThen]
 rw [Oper.upon_value]
 go_wp2
 go_ret
 exact ⟨rfl, rfl⟩
set_option maxHeartbeats 1000000 in
theorem compare_calls (a b : Bs) (w : World) : Calls Tryz.prog 94 #[str a, str b] w fun e w' => e = .returned (.int .i64 (Lib.compareBytes a b)) ∧ w' = w := by
 go_enter Tryz.func94, Tryz.ntmps94
 go_wp2_with (go_at_call 135; refine (cmpStr_calls _ _ _).mono ?_; rintro e w' ⟨rfl, rfl⟩)
 go_ret
 exact ⟨rfl, rfl⟩
set_option maxHeartbeats 1000000 in
theorem closureF (x y : FV) (W : World) : Calls Tryz.prog 93 #[.agg #[str x.1, i64 x.2.1, .slice x.2.2.1 x.2.2.2.1 x.2.2.2.2], .agg #[str y.1, i64 y.2.1, .slice y.2.2.1 y.2.2.2.1 y.2.2.2.2]] W fun e w' => e = .returned (.int .i64 (Lib.compareBytes x.1 y.1)) ∧ ∃ q os', w' = grow (W.drewN q) os' := by
 have hcon := fun W' => compare_calls x.1 y.1 W'
 generalize Lib.compareBytes x.1 y.1 = r at hcon ⊢
 go_enter Tryz.func93, Tryz.ntmps93
 go_wp2_with (go_at_call 94; refine (hcon _).mono ?_; rintro e w' ⟨rfl, rfl⟩)
 go_ret
 exact ⟨rfl, 0, _, by rw [alloc_eq_grow, alloc_eq_grow, grow_grow]; rfl⟩
theorem cmpLaysF (blk off size : Nat) (w : World) : CmpLays Tryz.prog 93 #[] encF 3 (fun x y : FV => Lib.compareBytes x.1 y.1) blk off size w :=
 fun _ _ _ _ x y => closureF x y _
theorem perm_lift {α β : Type} {f : α → β} {l m : List β} (h : l.Perm m) : ∀ {zs : List α}, zs.map f = m → ∃ zs' : List α, zs'.Perm zs ∧ zs'.map f = l := by
 induction h with
 | nil => intro zs hz; exact ⟨[], by rw [List.map_eq_nil_iff.1 hz], rfl⟩
 | cons x _ ih =>
  intro zs hz
  cases zs with
  | nil => cases hz
  | cons z zs =>
   injection hz with h1 h2
   obtain ⟨zs', h3, h4⟩ := ih h2
   exact ⟨z :: zs', .cons z h3, by rw [List.map_cons, h1, h4]⟩
 | swap x y l =>
  intro zs hz
  match zs, hz with
  | a :: b :: c, hz =>
   simp only [List.map_cons, List.cons.injEq] at hz
   obtain ⟨h1, h2, h3⟩ := hz
   exact ⟨b :: a :: c, .swap a b c, by simp [h1, h2, h3]⟩
 | trans _ _ ih1 ih2 =>
  intro zs hz
  obtain ⟨z1, h1, h2⟩ := ih2 hz
  obtain ⟨z2, h3, h4⟩ := ih1 h2
  exact ⟨z2, h3.trans h1, h4⟩
def fvV (g : FV) : Value := .agg #[str g.1, i64 g.2.1, .slice g.2.2.1 g.2.2.2.1 g.2.2.2.2]
theorem flat_fv (gs : List FV) : flat (gs.map fvV) = flatF gs := by
 induction gs with
 | nil => rfl
 | cons g gs ih => rw [List.map_cons, flat_cons, ih]; rfl
theorem each_fv {P : Nat → Prop} {w : World} {us : List Value} {xs : List File} (h : Each (tFile.rep P w) us xs) : ∃ zs : List (FV × File), zs.map (·.2) = xs ∧ us = (zs.map (·.1)).map fvV ∧ ∀ z ∈ zs, tFile.rep P w (fvV z.1) z.2 ∧ z.1.1 = z.2.name := by
 induction h with
 | nil => exact ⟨[], rfl, rfl, fun z hz => by cases hz⟩
 | @cons u x us xs h1 _ ih =>
  obtain ⟨zs, h2, h3, h4⟩ := ih
  have h1' := h1
  obtain ⟨a, c, rfl, _⟩ := tFile.val h1
  refine ⟨((x.name, x.size, a, x.ps.length, c), x) :: zs, by rw [List.map_cons, h2], by rw [List.map_cons, List.map_cons, ← h3]; rfl, fun z hz => ?_⟩
  rcases List.mem_cons.1 hz with rfl | hz
  ·exact ⟨h1', rfl⟩
  ·exact h4 z hz
theorem fv_each {P : Nat → Prop} {w : World} : ∀ {zs : List (FV × File)}, (∀ z ∈ zs, tFile.rep P w (fvV z.1) z.2) → Each (tFile.rep P w) ((zs.map (·.1)).map fvV) (zs.map (·.2))
 | [], _ => .nil
 | z :: zs, h => .cons (h z (by simp)) (fv_each (fun y hy => h y (by simp [hy])))
end files
open files
theorem SortFiles_fn {w : World} {v : Value} {xs : List File} {B Q : Nat → Prop} (hO : OwnO tFile Q 28 w v xs B) (hq : ∀ k, Q k → ¬ B k) : Fn Tryz.prog 92 [v, .func (.func 93) #[] #[]] w (fun r w2 => r = .tuple #[] ∧ ∃ ys, ys.Perm xs ∧ ys.Pairwise (fun p q => Op.bytesLess q.name p.name = false) ∧ OwnO tFile (fun k => Q k ∧ k < w.heap.size) 28 w2 v ys B ∧ Ext B w w2) := by
 rcases hO with ⟨rfl, rfl⟩ | ⟨b, hb, hlt, hl, ⟨rfl, rfl⟩ | ⟨cap, us, sp, rfl, hc, he, hB, hn⟩⟩
 ·refine ⟨fun w' => Tryz.call92 _ w', fun w' hw => ?_⟩
  have h := AnyF.slices_SortFunc_none sortF none 0 (.func (.func 93) #[] #[]) w'
  refine Calls.mono h ?_
  rintro e w2 ⟨rfl, rfl⟩
  exact ⟨_, w, hw, rfl, rfl, [], .nil, .nil, OwnO.nil, .refl _⟩
 ·refine ⟨fun w' => Tryz.call92 _ w', fun w' hw => ?_⟩
  have h := AnyF.slices_SortFunc_none sortF none 0 (.func (.func 93) #[] #[]) w'
  refine Calls.mono h ?_
  rintro e w2 ⟨rfl, rfl⟩
  exact ⟨_, w, hw, rfl, rfl, [], .nil, .nil, OwnO.nil, .refl _⟩
 ·refine ⟨fun w' => Tryz.call92 _ w', fun w' hw => ?_⟩
  obtain ⟨zs, hz1, rfl, hz2⟩ := each_fv he
  rw [flat_fv] at hB hn
  have hB' : Blk w' b 28 (flatF (zs.map (·.1)) ++ sp) := hB.keep (by rw [hw.heap])
  have hlz : (zs.map (·.1)).length = xs.length := by rw [← hz1, List.length_map, List.length_map]
  have hsz : (zs.map (·.1)).toArray.size = xs.length := by rw [List.size_toArray]; exact hlz
  have eg : ∀ args w, (callFunc 93 args).run Tryz.prog w = .ok (.enter 93 args) w := enters_of Tryz.func93 (by kernel_rfl) rfl
  have hcon := AnyQ.slices_SortFunc sortF 3 Tryz.isAgg28 Tryz.sizeOf28 encF (fun _ => rfl) (fun x v hv => by simp [encF] at hv; rcases hv with rfl | rfl | rfl <;> rfl) (fun x y : FV => Lib.compareBytes x.1 y.1) swoNm 93 #[] b 0 cap (zs.map (·.1)).toArray w' eg (cmpLaysF b 0 (zs.map (·.1)).toArray.size w') (holdsKF_of hB') hB'.lt (by rw [hsz]; simp only [Lim] at hl; omega)
  rw [hsz] at hcon
  refine Calls.mono hcon ?_
  rintro e w2 ⟨rfl, d', n, os, hp, hs, rfl⟩
  obtain ⟨p1, p2, p3⟩ := hp
  obtain ⟨gs, rfl⟩ : ∃ gs : List FV, d' = gs.toArray := ⟨d'.toList, by simp⟩
  have hlen : gs.length = (zs.map (·.1)).length := by rw [hlz]; simpa [hsz] using p1
  have hperm : gs.Perm (zs.map (·.1)) := by
   have e1 : (gs.toArray.extract 0 xs.length).toList = gs := by rw [← hlz, ← hlen]; simp
   have e2 : ((zs.map (·.1)).toArray.extract 0 xs.length).toList = zs.map (·.1) := by rw [← hlz]; simp; exact List.take_of_length_le (by simp)
   rw [e1, e2] at p3
   exact p3
  have hsorted : gs.Pairwise (fun p q => Op.bytesLess q.1 p.1 = false) := by
   rw [List.pairwise_iff_getElem]
   intro i j hi hj hij
   have h := hs i j (Nat.zero_le _) hij (by rw [← hlz, ← hlen]; exact hj)
   rw [ltNm] at h
   have e1 : gs.toArray[i]! = gs[i] := by simp [hi]
   have e2 : gs.toArray[j]! = gs[j] := by simp [hj]
   rw [e1, e2] at h
   exact h
  obtain ⟨g1, g2⟩ := sorted_worldF (n := n) (os := os) hw hB hlen
  obtain ⟨zs', hz3, rfl⟩ := perm_lift hperm rfl
  have hname : ∀ z ∈ zs', z.1.1 = z.2.name := fun z hz => (hz2 z (hz3.mem_iff.1 hz)).2
  have hre : ∀ z ∈ zs', tFile.rep (fun k => Q k ∧ k < w.heap.size) (sortWorldK encF 3 w' b 0 n (zs'.map (·.1)).toArray os) (fvV z.1) z.2 := by
   intro z hz
   have h0 := (hz2 z (hz3.mem_iff.1 hz)).1
   generalize fvV z.1 = u at h0 ⊢
   have h1 := tFile.mono (P' := fun k => Q k ∧ k < w.heap.size) h0 (fun k h hl => ⟨h, hl⟩)
   generalize sortWorldK encF 3 w' b 0 n (zs'.map (·.1)).toArray os = w9 at g2 ⊢
   exact tFile.ext h1 g2 (fun k hk _ e => hq k hk.1 (by have e : k = b := e; rw [e]; exact hb))
  have hey := fv_each hre
  have hly : (zs'.map (·.2)).length = xs.length := by rw [← hz1, List.length_map, List.length_map]; exact hz3.length_eq
  refine ⟨_, _, .refl _, rfl, rfl, zs'.map (·.2), ?_, ?_, .inr ⟨b, hb, g1.lt, by rw [hly]; exact hl, .inr ⟨cap, _, sp, by rw [hly], by rw [hly]; exact hc, hey, by rw [flat_fv]; exact g1, ?_⟩⟩, g2.mono (by rintro k _ rfl; exact hb)⟩
  ·rw [← hz1]; exact hz3.map _
  ·rw [List.pairwise_map] at hsorted ⊢
   refine List.Pairwise.imp_of_mem (fun {p q} hp hq h => ?_) hsorted
   rw [← hname p hp, ← hname q hq]; exact h
  ·rw [flat_fv, List.length_append, flatF_length, hlen, ← hn, List.length_append, flatF_length]
end Go.Proofs.YtpfehnopghffjaaGreatDoor
namespace Go.Proofs.YtpfehnopghffjaaGreatDoor
open Go
open room files
namespace files
theorem sectE_length (l : List Piece) : (sectE l).length ≤ 4096 := by
 unfold sectE
 split
 ·rename_i h
  have hm := (check_ok h).2.2.2
  have h1 := sect_total (may_pos hm)
  have h2 := (may_length (n := 4096) hm).2
  omega
 ·exact Nat.zero_le _
theorem mount_32 (d : Disk) : (mountF d).1.fs.length ≤ 32 := by
 by_cases h : (mountF d).2.2 = 0
 ·exact (mount_may h).2.2.1
 ·rw [(mountF_bad h).1]; exact Nat.zero_le _
theorem write_1 : (writeF ⟨1, []⟩).2 = 0 ∧ (writeF ⟨1, []⟩).1.length = 1024 := by
 have hc : checkD ⟨1, []⟩ = 0 := by
  refine checkD_0 (by simp) ⟨⟨by decide, by decide⟩, by decide, (fun p hp => by cases hp), (fun i h => absurd h (Nat.not_lt_zero _))⟩
 have hb : ¬ 952 < (bodyD []).length := by decide
 rw [writeF_0 hc hb]
 refine ⟨rfl, ?_⟩
 exact slotsD_length (by rw [List.length_append, List.length_replicate]; exact Nat.add_sub_cancel' (Nat.le_of_not_lt hb))
theorem formatF_20 {n : Int} (h : n < 96 ∨ 4096 < n) : formatF n = (disk.nodisk, 20) := by unfold formatF; rw [if_pos h]
theorem formatF_0 {n : Int} (h : ¬ (n < 96 ∨ 4096 < n)) : formatF n = (⟨n, (writeF ⟨1, []⟩).1 ++ List.replicate (n.toNat * 128 - 1024) 0, []⟩, 0) := by unfold formatF; rw [if_neg h]
end files
attribute [local irreducible] readD slotB slotF mountF slotOK checkR disk.readF findTo findF writeF nameF sectE bytesF
theorem NewB_fn {w : World} {n : Int} (hn : 1 ≤ n ∧ n ≤ 4096) : Fn Tryz.prog 38 [i64 n] w (fun r w2 => ∃ b, r = .tuple #[.agg #[i64 n, .slice (some ⟨b, 0, none⟩) (n.toNat * 128) (n.toNat * 128), .slice none 0 0], i64 0] ∧ Blk w2 b 5 (List.replicate (n.toNat * 128) (.int .u8 0)) ∧ w.heap.size < b ∧ Ext (fun _ => False) w w2) := by
 refine Fn.enter (fun w => Tryz.call38 _ w) Tryz.func38 rfl ?_
 refine .seq (.region ?_)
 refine .v rfl rfl (.alloc rfl rfl) ?_
 rintro _ w2 ⟨rfl, N2⟩
 refine .p rfl rfl (.as rfl) (.nil (.code (.seq (.seq (.keep [(2, _), (0, _)] ⟨rfl, rfl, trivial⟩ (.region ?_))))))
 refine .p rfl rfl (.mv rfl) (.p rfl rfl (.no (.lt rfl rfl) (by omega)) (.p rfl rfl (.mv rfl) (.p rfl rfl (.mv rfl) (.p rfl rfl (.no (.gt rfl rfl) (by omega)) (.p rfl rfl (.pickF rfl rfl) (.nil (.code (.keep [(9, _), (2, _), (0, _)] ⟨rfl, rfl, rfl, trivial⟩ (.condF rfl (.skip (.code (.seq (.keep [(2, _), (0, _)] ⟨rfl, rfl, trivial⟩ (.region ?_))))))))))))))
 refine .p rfl rfl (.mv rfl) (.p rfl rfl (.mv rfl) (.p rfl rfl (.mul rfl rfl (by omega)) (.v rfl rfl (.make (eb := 1) rfl rfl rfl rfl rfl rfl rfl rfl (by omega)) ?_)))
 rintro _ w14 ⟨rfl, N14⟩
 refine .p rfl rfl (.build (cs := [i64 n, .slice (some ⟨w2.heap.size, 0, none⟩) (n * 128).toNat (n * 128).toNat, .slice none 0 0]) rfl (fun _ => by kernel_rfl)) (.s rfl (.storeAll (n := 3) rfl rfl rfl rfl rfl (N2.blk.ext N14.ext (fun x => x)) rfl) ?_)
 intro w15 P15
 have X15 := (N2.ext.trans N14.ext).then P15.ext (by rintro k rfl _; exact Nat.le_refl _)
 have hz : w2.heap.size = w.heap.size + 1 := N2.size
 refine .p rfl rfl (.as rfl) (.nil (.code ?_))
 refine .retR (.cell (n := 3) rfl rfl rfl rfl rfl (P15.blk.cells) (.tmp rfl .nil)) ?_
 have e : (n * 128).toNat = n.toNat * 128 := by omega
 rw [e]
 have B := N14.blk.ext P15.ext (by show ¬ w2.heap.size = w.heap.size; omega)
 rw [e] at B
 exact ⟨w2.heap.size, rfl, B, by omega, X15⟩
theorem NewC_fn {w : World} {n : Int} (hn : 1 ≤ n) : Fn Tryz.prog 38 [i64 n] w (fun r w2 => ∃ m a l c a2 l2 c2 e, r = .tuple #[.agg #[i64 m, .slice a l c, .slice a2 l2 c2], i64 e] ∧ (e = 20 ∧ 4096 < n ∨ e = 0 ∧ n ≤ 4096 ∧ m = n ∧ a2 = none ∧ l2 = 0 ∧ c2 = 0 ∧ l = n.toNat * 128 ∧ c = l ∧ ∃ b, a = some ⟨b, 0, none⟩ ∧ Blk w2 b 5 (List.replicate (n.toNat * 128) (.int .u8 0)) ∧ w.heap.size < b) ∧ Ext (fun _ => False) w w2) := by
 by_cases h : n ≤ 4096
 ·refine (NewB_fn (n := n) ⟨hn, h⟩).mono ?_
  rintro r w2 ⟨b, h1, h2, h3, h4⟩
  exact ⟨_, _, _, _, _, _, _, _, h1, .inr ⟨rfl, h, rfl, rfl, rfl, rfl, rfl, rfl, b, rfl, h2, h3⟩, h4⟩
 ·refine (New_fn (n := n)).mono ?_
  rintro r w2 ⟨v, h1, h2, h3⟩
  obtain ⟨a1, c1, a2, c2, rfl⟩ := tDisk.shape h2
  refine ⟨_, _, _, _, _, _, _, _, h1, .inl ⟨?_, by omega⟩, h3⟩
  unfold disk.newF
  rw [if_pos (by omega)]
theorem data_1 {N : Nat} (hN : 1024 ≤ N) : ((List.replicate N (Value.int .u8 0)).take 0 ++ ((writeF ⟨1, []⟩).1.take (min (writeF ⟨1, []⟩).1.length N)).map u8 ++ (List.replicate N (Value.int .u8 0)).drop (0 + min (writeF ⟨1, []⟩).1.length N)).take ((writeF ⟨1, []⟩).1 ++ List.replicate (N - 1024) (0 : UInt8)).length = ((writeF ⟨1, []⟩).1 ++ List.replicate (N - 1024) (0 : UInt8)).map u8 := by
 have hl := write_1.2
 generalize (writeF ⟨1, []⟩).1 = b at *
 rw [hl, Nat.min_eq_left hN, Nat.zero_add, List.take_zero, List.nil_append, List.take_of_length_le (by omega : b.length ≤ 1024), List.drop_replicate, List.map_append, List.map_replicate]
 exact List.take_of_length_le (by simp)
theorem Format_fn {w : World} {n : Int} (hg : GOK w) (hn63 : n ≤ 9223372036854775807) : Fn Tryz.prog 28 [i64 n] w (fun r w2 => ∃ v, r = .tuple #[v, i64 (formatF n).2] ∧ disk.tDisk.rep (fun k => w.heap.size ≤ k) w2 v (formatF n).1 ∧ Ext (fun _ => False) w w2) := by
 refine Fn.enter (fun w => Tryz.call28 _ w) Tryz.func28 rfl ?_
 refine .seq (.region ?_)
 refine .v rfl rfl (.alloc rfl rfl) ?_
 rintro _ w2 ⟨rfl, N2⟩
 have X2 := N2.ext
 have B2 := N2.blk
 have z2 : w2.heap.size = w.heap.size + 1 := N2.size
 refine .p rfl rfl (.as rfl) (.nil (.code (.seq (.seq (.keep [(2, _), (0, _)] ⟨rfl, rfl, trivial⟩ (.region ?_))))))
 refine .p rfl rfl (.mv rfl) (.p rfl rfl (.lt rfl rfl) (.nil (.code (.keep [(9, _), (2, _), (0, _)] ⟨rfl, rfl, rfl, trivial⟩ ?_))))
 refine .condD rfl (fun c9 => ?_) (fun c9 => ?_)
 ·refine .seq (.keep [(2, _)] ⟨rfl, trivial⟩ (.region ?_))
  refine .p rfl rfl (.build (cs := [i64 0, .slice none 0 0, .slice none 0 0]) rfl (fun _ => by kernel_rfl)) (.s rfl (.storeAll (n := 3) rfl rfl rfl rfl rfl N2.blk rfl) ?_)
  intro w3 P3
  refine .p rfl rfl (.as rfl) (.nil (.code ?_))
  refine .retR (.cell (n := 3) rfl rfl rfl rfl rfl (P3.blk.cells) (.tmp rfl .nil)) ?_
  rw [formatF_20 (.inl c9)]
  exact ⟨_, rfl, disk.tDisk.mk (d := disk.nodisk) Sl.nil Sl.nil (by decide), N2.ext.then P3.ext (by rintro k rfl _; exact Nat.le_refl _)⟩
 ·have h96 : ¬ n < 96 := c9
  refine .skip (.code (.seq (.keep [(2, _), (0, _)] ⟨rfl, rfl, trivial⟩ (.region ?_))))
  refine .p rfl rfl (.mv rfl) (.call (first := []) (captured := []) rfl rfl rfl rfl (NewC_fn (n := n) (by omega)) ?_)
  rintro _ w13 ⟨m, a, l, c, a2, l2, c2, e, rfl, hnew, X13⟩
  have z13 := X13.size
  refine .p rfl rfl (.mv rfl) (.p rfl rfl (.extract rfl rfl) (.p rfl rfl (.extract rfl rfl) (.v rfl rfl (.alloc rfl rfl) ?_)))
  rintro _ wn4 ⟨rfl, N4⟩
  refine .s rfl (.storeAll (n := 3) rfl rfl rfl rfl rfl N4.blk rfl) ?_
  intro w4 P4
  have Y4 := N4.ext.then P4.ext (by rintro k rfl _; exact Nat.le_refl _)
  have zy4 := Y4.size
  have B4 := P4.blk
  clear P4 N4
  refine .p rfl rfl (.as rfl) (.nil (.code (.seq (.seq (.keep [(5, _), (4, _), (2, _)] ⟨rfl, rfl, rfl, trivial⟩ (.region ?_))))))
  refine .p rfl rfl (.mv rfl) (.p rfl rfl (.ne rfl rfl) (.nil (.code (.keep [(17, _), (5, _), (4, _), (2, _)] ⟨rfl, rfl, rfl, rfl, trivial⟩ ?_))))
  refine .condD rfl (fun c17 => ?_) (fun c17 => ?_)
  ·have hbig : e = 20 ∧ 4096 < n := by rcases hnew with h | h; exact h; exact absurd h.1 c17
   obtain ⟨rfl, hbig⟩ := hbig
   refine .seq (.keep [(5, _), (2, _)] ⟨rfl, rfl, trivial⟩ (.region ?_))
   refine .p rfl rfl (.build (cs := [i64 0, .slice none 0 0, .slice none 0 0]) rfl (fun _ => by kernel_rfl)) (.p rfl rfl (.mv rfl) (.s rfl (.storeAll (n := 3) rfl rfl rfl rfl rfl (B2.ext (S := fun _ => False) (by repeat (first | exact Ext.refl _ | assumption | refine Ext.trans (by assumption) ?_)) (fun x => x)) rfl) ?_))
   intro w3 P3
   refine .p rfl rfl (.as rfl) (.nil (.code ?_))
   refine .retR (.cell (n := 3) rfl rfl rfl rfl rfl (P3.blk.cells) (.tmp rfl .nil)) ?_
   rw [formatF_20 (.inr hbig)]
   exact ⟨_, rfl, disk.tDisk.mk (d := disk.nodisk) Sl.nil Sl.nil (by decide), Ext.then (S := fun k => k = w.heap.size) (by repeat (first | exact Ext.refl _ | assumption | refine Ext.trans (by assumption) ?_)) P3.ext (by rintro k rfl _; omega)⟩
  ·have he : e = 0 := Decidable.not_not.1 c17
   rcases hnew with hnew | hnew
   ·exact absurd (hnew.1.symm.trans he) (by decide)
   obtain ⟨_, h4, rfl, rfl, rfl, rfl, rfl, rfl, b, rfl, Bb, hb⟩ := hnew
   have hbl := Bb.lt
   refine .skip (.code (.seq (.keep [(4, _), (2, _)] ⟨rfl, rfl, trivial⟩ (.region ?_))))
   refine .p rfl rfl (.build (cs := [i64 1, .slice none 0 0]) rfl (fun _ => by kernel_rfl)) (.call (first := []) (captured := []) rfl rfl rfl rfl (FWrite_fn (x := ⟨1, []⟩) (tDir.mk (x := ⟨1, []⟩) Sl.nil ⟨by show (-9223372036854775808 : Int) ≤ 1; decide, by show (1 : Int) ≤ _; decide⟩) (by show (0 : Nat) ≤ _; decide) (hg.ext0 (by repeat (first | exact Ext.refl _ | assumption | refine Ext.trans (by assumption) ?_)))) ?_)
   rintro _ w22 ⟨v22, rfl, G22, X22⟩
   have z22 := X22.size
   have hl1 := write_1.2
   refine .p rfl rfl (.mv rfl) (.p rfl rfl (.extract rfl rfl) (.p rfl rfl (.extract rfl rfl) (.p rfl rfl (.as rfl) (.p rfl rfl (.as rfl) (.nil (.code (.seq (.keep [(6, _), (4, _), (2, _)] ⟨rfl, rfl, rfl, trivial⟩ (.region ?_)))))))))
   refine .p rfl rfl (.fieldAddr rfl rfl rfl rfl) (.p rfl rfl (.load rfl rfl rfl ((B4.ext (S := fun _ => False) (by repeat (first | exact Ext.refl _ | assumption | refine Ext.trans (by assumption) ?_)) (fun x => x)).cell 1)) ?_)
   refine .p rfl rfl (.mv rfl) (.v rfl rfl (.copyB (l := (writeF ⟨1, []⟩).1) rfl (Bb.ext (S := fun _ => False) (by repeat (first | exact Ext.refl _ | assumption | refine Ext.trans (by assumption) ?_)) (fun x => x)) rfl (Gr.rep G22) rfl rfl (by rw [List.length_replicate, hl1]; omega)) ?_)
   rintro _ w28 ⟨rfl, P28⟩
   have z28 := P28.ext.size
   have Bd := P28.blk
   have B428 := (B4.ext (S := fun _ => False) (by repeat (first | exact Ext.refl _ | assumption | refine Ext.trans (by assumption) ?_)) (fun x => x)).ext P28.ext (by omega)
   have B228 := (B2.ext (S := fun _ => False) (by repeat (first | exact Ext.refl _ | assumption | refine Ext.trans (by assumption) ?_)) (fun x => x)).ext P28.ext (by omega)
   refine .nil (.code (.seq (.keep [(4, _), (2, _)] ⟨rfl, rfl, trivial⟩ (.region ?_))))
   refine .p rfl rfl (.loadA (n := 3) rfl rfl rfl rfl rfl B428.cells) (.s rfl (.storeAll (n := 3) rfl rfl rfl rfl rfl B228 rfl) ?_)
   intro w8 P8
   refine .p rfl rfl (.as rfl) (.nil (.code ?_))
   refine .retR (.cell (n := 3) rfl rfl rfl rfl rfl (P8.blk.cells) (.tmp rfl .nil)) ?_
   rw [formatF_0 (by omega)]
   refine ⟨_, rfl, ?_, (Ext.then (S := fun k => k = b) (by repeat (first | exact Ext.refl _ | assumption | refine Ext.trans (by assumption) ?_)) P28.ext (by rintro k rfl _; omega)).then P8.ext (by rintro k rfl _; omega)⟩
   refine disk.tDisk.mk (d := ⟨m, (writeF ⟨1, []⟩).1 ++ List.replicate (m.toNat * 128 - 1024) 0, []⟩) (tBytes.mono (Sl.mkBytesB (P := fun k => k = b) (Bd.ext P8.ext (by omega)) (data_1 (by omega)) rfl (by rw [List.length_append, List.length_replicate]; omega) (by rw [List.length_append, List.length_replicate]; simp only [Lim]; omega) (by rw [List.length_append, List.length_replicate]; omega)) (by rintro k rfl _; show w.heap.size ≤ k; omega)) Sl.nil (by show -9223372036854775808 ≤ m ∧ m ≤ 9223372036854775807; omega)
end Go.Proofs.YtpfehnopghffjaaGreatDoor
