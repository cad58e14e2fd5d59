
/-
  What stands in a table between two keys.
-/
import Derived.Test.YthkgadhamecnlaaTabUse
import Derived.Test.YthkgadhamecnlaaDel
set_option linter.unusedVariables false
set_option linter.unusedSimpArgs false
set_option maxRecDepth 20000
namespace Go.Proofs.Ythkgadhamecnlaa
open Go page table
namespace table
theorem idxI_neg {p : Entry → Bool} {l : List Entry} (h : idxI p l = -1) : ∀ x ∈ l, p x = false := fun x hx => by
  have h0 : ¬ 0 ≤ idxI p l := by omega
  have := List.findIdx?_eq_none_iff.1 (idxI_lt h0) x hx
  simpa using this
theorem idxI_pos {p : Entry → Bool} {l : List Entry} (h : ¬ idxI p l = -1) : 0 ≤ idxI p l := by
  unfold idxI at h ⊢
  split
  · exact Int.natCast_nonneg _
  · rename_i hn; rw [hn] at h; exact absurd rfl h
theorem idxI_split {p : Entry → Bool} {l : List Entry} {i : Nat} (h : l.findIdx? p = some i) (hi : i < l.length) : (l.take (i + 1)).filter (fun x => !p x) = l.take i := by
  rw [List.findIdx?_eq_some_iff_getElem] at h
  obtain ⟨h', hp, hb⟩ := h
  rw [List.take_succ_eq_append_getElem hi, List.filter_append]
  have e1 : [l[i]].filter (fun x => !p x) = [] := by simp [hp]
  have e2 : (l.take i).filter (fun x => !p x) = l.take i := by
    rw [List.filter_eq_self]
    intro x hx
    obtain ⟨j, hj, rfl⟩ := List.getElem_of_mem hx
    rw [List.length_take] at hj
    rw [List.getElem_take]
    simpa using hb j (by omega)
  rw [e1, e2, List.append_nil]
theorem filter_step {α : Type} {q : α → Bool} {l : List α} {j : Nat} (hj : j < l.length) : (l.take (j + 1)).filter q = (l.take j).filter q ++ (if q l[j] = true then [l[j]] else []) := by
  rw [List.take_succ_eq_append_getElem hj, List.filter_append]
  congr 1
  by_cases h : q l[j] = true
  · rw [if_pos h]; simp [h]
  · rw [if_neg h]; simp [h]
theorem drop_at {α : Type} {l m : List α} {j : Nat} (h : l.drop j = m.drop j) (h1 : j < l.length) (h2 : j < m.length) : l[j] = m[j] ∧ l.drop (j + 1) = m.drop (j + 1) := by
  rw [List.drop_eq_getElem_cons h1, List.drop_eq_getElem_cons h2] at h
  injection h with h3 h4
  exact ⟨h3, h4⟩
theorem set_take {α : Type} {l : List α} {i : Nat} {x : α} (h : i < l.length) : (l.set i x).take (i + 1) = l.take i ++ [x] := by
  rw [List.take_succ_eq_append_getElem (by rw [List.length_set]; exact h), List.take_set_of_le (Nat.le_refl i), List.getElem_set_self]
theorem set_drop {α : Type} {l : List α} {i j : Nat} {x : α} (h : i < j) : (l.set i x).drop j = l.drop j := by
  rw [List.drop_set_of_lt h]
/-- not between two keys -/
def outK (a b : Bs) (x : Entry) : Bool := Op.bytesLess x.key a || (decide (¬ b = []) && !Op.bytesLess x.key b)
noncomputable def rangeT (b lo hi : Bs) : List Entry × Int :=
  match openF b with
  | none => ([], 90)
  | some rows => if 256 < lo.length ∨ 256 < hi.length then ([], 3) else ((entsR rows).filter (fun x => !outK lo hi x), 0)
end table
theorem DeleteFunc_fn {w : World} {v : Value} {l : List Entry} {B : Nat → Prop} {f : FuncId} {cap : List Value} {p : Entry → Bool} (h : OwnO tEntry (fun _ => False) 33 w v l B) (hk : ∀ (x : Entry) (u : Value) (w' : World), tEntry.rep All w' u x → Ext B w w' → Fn Try.prog f ([] ++ [u] ++ cap) w' (fun r w2 => r = .bool (p x) ∧ Ext (fun _ => False) w' w2)) : Fn Try.prog 57 [v, .func (.func f) #[] cap.toArray] w (fun r w2 => OwnO tEntry (fun _ => False) 33 w2 r (l.filter (fun x => !p x)) B ∧ Ext B w w2) := by
  have hR := OwnO.rep h (R := All) (fun _ _ _ => trivial) (fun _ h _ => h.elim)
  have hlim := Sl.lim hR
  simp only [Lim] at hlim
  refine Fn.enter (fun w => Try.call57 _ w) Try.func57 rfl ?_
  refine .seq (.region ?_)
  refine .p rfl rfl (.as rfl) ?_
  refine .nil (.code (.seq (.keep [(0, _), (1, _)] ⟨rfl, rfl, trivial⟩ (.region ?_))))
  refine .p rfl rfl (.mv rfl) ?_
  refine .p rfl rfl (.mv rfl) ?_
  refine .call (first := []) (captured := []) rfl rfl rfl rfl (IndexFunc_fn (f := f) (cap := cap) (p := p) hR (fun x u w' hu hx => hk x u w' hu (hx.mono (fun _ _ h => h.elim)))) ?_
  rintro _ w10 ⟨rfl, X10⟩
  have X10B : Ext B w w10 := X10.mono (fun _ _ h => h.elim)
  refine .p rfl rfl (.as rfl) ?_
  refine .nil (.code (.seq (.seq (.keep [(5, _), (0, _), (1, _)] ⟨rfl, rfl, rfl, trivial⟩ (.region ?_)))))
  refine .p rfl rfl (.mv rfl) ?_
  refine .p rfl rfl (.eq rfl rfl) ?_
  refine .nil (.code (.keep [(12, _), (5, _), (0, _), (1, _)] ⟨rfl, rfl, rfl, rfl, trivial⟩ ?_))
  refine .condD rfl (fun c12 => ?_) (fun c12 => ?_)
  · have hno := idxI_neg c12
    refine .seq (.keep [(0, _)] ⟨rfl, trivial⟩ (.region ?_))
    refine .p rfl rfl (.mv rfl) ?_
    refine .p rfl rfl (.as rfl) ?_
    refine .nil (.code ?_)
    refine .ret _ rfl ?_
    have e : l.filter (fun x => !p x) = l := List.filter_eq_self.2 (fun x hx => by rw [hno x hx]; rfl)
    rw [e]
    exact ⟨OwnO.ext0 h X10, X10B⟩
  · obtain ⟨i0, hf0, hi0, hil0⟩ := idxI_ge (idxI_pos c12)
    rw [hi0]
    have hsp := idxI_split hf0 hil0
    obtain ⟨b, hbB, hbl, hO0⟩ : ∃ b, B b ∧ b < w.heap.size ∧ Own tEntry (fun _ => False) 33 w v l b := by
      rcases h with ⟨h, _⟩ | h
      · rw [h] at hil0; exact absurd hil0 (Nat.not_lt_zero _)
      · exact h
    obtain ⟨cap1, rfl, hc1⟩ : ∃ cap1, v = .slice (some ⟨b, 0, none⟩) l.length cap1 ∧ l.length ≤ cap1 := by
      obtain ⟨_, ⟨h, _⟩ | ⟨cap1, us, sp, hv, hc, _⟩⟩ := hO0
      · rw [h] at hil0; exact absurd hil0 (Nat.not_lt_zero _)
      · exact ⟨cap1, hv, hc⟩
    refine .skip (.code (.seq (.seq (.keep [(5, _), (0, _), (1, _)] ⟨rfl, rfl, rfl, trivial⟩ (.region ?_)))))
    refine .p rfl rfl (.mv rfl) ?_
    refine .p rfl rfl (.add rfl rfl (by omega)) ?_
    refine .p rfl rfl (.as rfl) ?_
    refine .nil (.code (.block (.keep [(6, _), (5, _), (0, _), (1, _)] ⟨rfl, rfl, rfl, rfl, trivial⟩ ?_)))
    refine .loop (S := Nat × Nat × List Entry × World) (fun s => [(0, .slice (some ⟨b, 0, none⟩) l.length cap1), (1, .func (.func f) #[] cap.toArray), (5, i64 s.2.1), (6, i64 s.1)]) (fun s => s.2.2.2) (fun s => s.1 ≤ l.length ∧ s.2.1 < s.1 ∧ s.2.2.1.length = l.length ∧ s.2.2.1.take s.2.1 = (l.take s.1).filter (fun x => !p x) ∧ s.2.2.1.drop s.1 = l.drop s.1 ∧ Own tEntry (fun _ => False) 33 s.2.2.2 (.slice (some ⟨b, 0, none⟩) l.length cap1) s.2.2.1 b ∧ Ext B w s.2.2.2) (fun s => l.length - s.1) (i0 + 1, i0, l, w10) ⟨rfl, rfl, rfl, rfl, trivial⟩ rfl ⟨hil0, Nat.lt_succ_self _, rfl, hsp.symm, rfl, hO0.ext X10 (fun x => x) (fun _ h => h.elim), X10B⟩ ?_
    rintro ⟨j, i, ys, wi⟩ J ⟨hj', hij, hyl, hfl, hdr, hO, hX⟩ again
    simp only at hj' hij hyl hfl hdr hO hX
    change G _ [(0, .slice (some ⟨b, 0, none⟩) l.length cap1), (1, .func (.func f) #[] cap.toArray), (5, i64 i), (6, i64 j)] _ _ wi
    refine .seq (.seq (.region ?_))
    refine .p rfl rfl (.mv rfl) ?_
    refine .p rfl rfl (.mv rfl) ?_
    refine .p rfl rfl (.len rfl rfl) ?_
    refine .p rfl rfl (.lt rfl rfl) ?_
    refine .nil (.code (.keep [(19, _), (0, _), (1, _), (5, _), (6, _)] ⟨rfl, rfl, rfl, rfl, rfl, trivial⟩ ?_))
    refine .condD rfl (fun c19 => ?_) (fun c19 => ?_)
    · have hj : j < l.length := by omega
      obtain ⟨hyj, hyd⟩ := drop_at hdr (by omega) hj
      obtain ⟨b0, o0, q0, ue, e, _, hcs, hre⟩ := Sl.at (Own.rep hO (Q' := All) trivial (fun _ h => h.elim)) (i := j) (List.getElem?_eq_getElem (by omega))
      injection e with ea _ _
      cases ea
      rw [hyj] at hre
      obtain ⟨rfl, h1, h2, h3⟩ := tEntry.val hre
      have hfs := filter_step (q := fun x => !p x) hj
      refine .skip (.code (.seq (.block (.seq (.keep [(0, _), (1, _), (5, _), (6, _)] ⟨rfl, rfl, rfl, rfl, trivial⟩ (.region ?_))))))
      refine .p rfl rfl (.mv rfl) ?_
      refine .p rfl rfl (.mv rfl) ?_
      refine .p rfl rfl (.indexAddr (s := 4) rfl rfl rfl rfl (by omega)) ?_
      refine .p rfl rfl (.loadA (n := 4) rfl rfl rfl rfl rfl hcs) ?_
      refine .v rfl rfl (.alloc rfl rfl) ?_
      rintro _ w8 ⟨rfl, N8⟩
      refine .s rfl (.storeAll (n := 4) rfl rfl rfl rfl rfl N8.blk rfl) ?_
      intro w9 P8
      have X8 := N8.ext.then P8.ext (by rintro k rfl _; exact Nat.le_refl _)
      have B8 := P8.blk
      have X9 : Ext B w w9 := hX.trans (X8.mono (fun _ _ h => h.elim))
      refine .nil (.code (.seq (.keep [(7, _), (0, _), (1, _), (5, _), (6, _)] ⟨rfl, rfl, rfl, rfl, rfl, trivial⟩ (.region ?_))))
      refine .p rfl rfl (.mv rfl) ?_
      refine .p rfl rfl (.loadA (n := 4) rfl rfl rfl rfl rfl B8.cells) ?_
      refine .call (first := []) (captured := cap) rfl rfl rfl rfl (hk l[j] _ w9 (tEntry.mk h1 h2 h3) X9) ?_
      rintro _ w28 ⟨rfl, X28⟩
      refine .p rfl rfl (.not rfl) ?_
      refine .nil (.code (.keep [(29, _), (7, _), (0, _), (1, _), (5, _), (6, _)] ⟨rfl, rfl, rfl, rfl, rfl, rfl, trivial⟩ ?_))
      refine .cond rfl (fun c29 => ?_) (fun c29 => ?_)
      · refine .seq (.keep [(7, _), (0, _), (1, _), (5, _), (6, _)] ⟨rfl, rfl, rfl, rfl, rfl, trivial⟩ (.region ?_))
        refine .p rfl rfl (.mv rfl) ?_
        refine .p rfl rfl (.mv rfl) ?_
        refine .p rfl rfl (.loadA (n := 4) rfl rfl rfl rfl rfl (B8.ext X28 (fun x => x)).cells) ?_
        refine .p rfl rfl (.indexAddr (s := 4) rfl rfl rfl rfl (by omega)) ?_
        refine .s rfl (.storeOwn (i := i) (y' := l[j]) ((hO.ext X8 (fun x => x) (fun _ h => h.elim)).ext X28 (fun x => x) (fun _ h => h.elim)) (by omega) (by show _ = some (Value.pointer (some ⟨b, i * 4, none⟩)); rw [show i * 4 = 0 + i * 4 by omega]; rfl) rfl rfl rfl rfl (tEntry.mk h1 h2 h3) (fun _ h => h.elim)) ?_
        rintro w33 ⟨O33, X33⟩
        refine .nil (.code (.keep [(0, _), (1, _), (5, _), (6, _)] ⟨rfl, rfl, rfl, rfl, trivial⟩ (.region ?_)))
        refine .p rfl rfl (.mv rfl) ?_
        refine .p rfl rfl (.add rfl rfl (by omega)) ?_
        refine .p rfl rfl (.as rfl) ?_
        refine .nil (.blk (.code (.keep [(5, _), (0, _), (1, _), (6, _)] ⟨rfl, rfl, rfl, rfl, trivial⟩ (.region ?_))))
        refine .p rfl rfl (.mv rfl) ?_
        refine .p rfl rfl (.add rfl rfl (by omega)) ?_
        refine .p rfl rfl (.as rfl) ?_
        refine .nil ?_
        exact (again (j + 1, i + 1, ys.set i l[j], w33) ⟨by show j + 1 ≤ _; omega, by show i + 1 < j + 1; omega, by show (ys.set i _).length = _; rw [List.length_set]; exact hyl, by show (ys.set i l[j]).take (i + 1) = _; rw [set_take (by omega), hfs, if_pos c29, hfl], by show (ys.set i l[j]).drop (j + 1) = _; rw [set_drop (by omega)]; exact hyd, O33, (X9.trans (X28.mono (fun _ _ h => h.elim))).trans (X33.mono (fun k _ e => by have e : k = b := e; rw [e]; exact hbB))⟩ (by show _ - (j + 1) < _ - j; omega)).of ⟨rfl, rfl, rfl, rfl, trivial⟩
      · refine .skip (.blk (.code (.keep [(0, _), (1, _), (5, _), (6, _)] ⟨rfl, rfl, rfl, rfl, trivial⟩ (.region ?_))))
        refine .p rfl rfl (.mv rfl) ?_
        refine .p rfl rfl (.add rfl rfl (by omega)) ?_
        refine .p rfl rfl (.as rfl) ?_
        refine .nil ?_
        exact (again (j + 1, i, ys, w28) ⟨by show j + 1 ≤ _; omega, by show i < j + 1; omega, hyl, by show ys.take i = _; rw [hfs, if_neg (by rw [c29]; exact Bool.false_ne_true), List.append_nil, hfl], hyd, (hO.ext X8 (fun x => x) (fun _ h => h.elim)).ext X28 (fun x => x) (fun _ h => h.elim), X9.trans (X28.mono (fun _ _ h => h.elim))⟩ (by show _ - (j + 1) < _ - j; omega)).of ⟨rfl, rfl, rfl, rfl, trivial⟩
    · obtain rfl : j = l.length := by omega
      rw [List.take_length] at hfl
      refine .exit rfl (.code (.seq (.keep [(0, _), (5, _)] ⟨rfl, rfl, trivial⟩ (.region ?_))))
      refine .p rfl rfl (.mv rfl) ?_
      refine .p rfl rfl (.mv rfl) ?_
      refine .p rfl rfl (.cast (.cutLo (s := 4) rfl rfl rfl rfl (by omega)) (show cutV 4 (some ⟨b, 0, none⟩) cap1 ((i : Nat) : Int).toNat l.length = cutV tEntry.size (some ⟨b, 0, none⟩) cap1 i l.length from rfl)) ?_
      refine .w rfl (.clearOwn hO (by omega) rfl (fun _ h => h.elim) rfl rfl rfl rfl rfl) ?_
      rintro _ wc ⟨Oc, Xc⟩
      refine .nil (.code (.seq (.keep [(0, _), (5, _)] ⟨rfl, rfl, trivial⟩ (.region ?_))))
      refine .p rfl rfl (.mv rfl) ?_
      refine .p rfl rfl (.mv rfl) ?_
      refine .p rfl rfl (.cast (.cutHi (s := 4) rfl rfl rfl rfl (by omega)) (show cutV 4 (some ⟨b, 0, none⟩) cap1 0 ((i : Nat) : Int).toNat = .slice (some ⟨b, 0, none⟩) i cap1 from cutV_zero)) ?_
      refine .p rfl rfl (.as rfl) ?_
      refine .nil (.code ?_)
      refine .ret _ rfl ?_
      rw [← hfl]
      exact ⟨OwnO.of Oc hbB, hX.trans (Xc.mono (fun k _ e => by have e : k = b := e; rw [e]; exact hbB))⟩
theorem TRangeC_fn {w : World} {q q2 : Nat} {E E2 : TypeId} {lo hi : Bs} {u : Value} {x : Entry} (h : tEntry.rep All w u x) (hB : Blk w q E [str lo]) (hB2 : Blk w q2 E2 [str hi]) : Fn Try.prog 58 ([] ++ [u] ++ [.pointer (some ⟨q, 0, none⟩), .pointer (some ⟨q2, 0, none⟩)]) w (fun r w2 => r = .bool (outK lo hi x) ∧ Ext (fun _ => False) w w2) := by
  obtain ⟨rfl, _⟩ := tEntry.val h
  refine Fn.enter (fun w => Try.call58 _ w) Try.func58 rfl ?_
  refine .seq (.region ?_)
  refine .v rfl rfl (.box rfl) ?_
  rintro _ w3 ⟨rfl, N3⟩
  refine .p rfl rfl (.as rfl) ?_
  refine .nil (.code (.seq (.keep [(3, _), (1, _), (2, _)] ⟨rfl, rfl, rfl, trivial⟩ (.region ?_))))
  refine .p rfl rfl (.fieldAddr rfl rfl rfl rfl) ?_
  refine .p rfl rfl (.load rfl rfl rfl (N3.blk.cell 0)) ?_
  refine .p rfl rfl (.load rfl rfl rfl ((hB.ext N3.ext (fun x => x)).cell 0)) ?_
  refine .p rfl rfl (.ltS rfl rfl) ?_
  refine .p rfl rfl (.mv rfl) ?_
  refine .case 9 rfl (fun c9 => ?_) (fun c9 => ?_)
  · refine .skip rfl rfl ?_
    refine .skip rfl rfl ?_
    refine .skip rfl rfl ?_
    refine .skip rfl rfl ?_
    refine .skip rfl rfl ?_
    refine .skip rfl rfl ?_
    refine .skip rfl rfl ?_
    refine .skip rfl rfl ?_
    refine .p rfl rfl (.pickT rfl rfl) ?_
    refine .p rfl rfl (.as rfl) ?_
    refine .nil (.code ?_)
    refine .ret _ rfl ?_
    exact ⟨by unfold outK; rw [c9]; rfl, N3.ext⟩
  · refine .p rfl rfl (.load rfl rfl rfl ((hB2.ext N3.ext (fun x => x)).cell 0)) ?_
    refine .p rfl rfl (.neS rfl rfl) ?_
    refine .p rfl rfl (.mv rfl) ?_
    refine .caseD 12 rfl (fun c12 => ?_) (fun c12 => ?_)
    · refine .p rfl rfl (.fieldAddr rfl rfl rfl rfl) ?_
      refine .p rfl rfl (.load rfl rfl rfl (N3.blk.cell 0)) ?_
      refine .p rfl rfl (.load rfl rfl rfl ((hB2.ext N3.ext (fun x => x)).cell 0)) ?_
      refine .p rfl rfl (.geS rfl rfl) ?_
      refine .p rfl rfl (.pickT rfl rfl) ?_
      refine .p rfl rfl (.pickF rfl rfl) ?_
      refine .p rfl rfl (.as rfl) ?_
      refine .nil (.code ?_)
      refine .ret _ rfl ?_
      exact ⟨by unfold outK; rw [c9, decide_eq_true c12]; rfl, N3.ext⟩
    · refine .skip rfl rfl ?_
      refine .skip rfl rfl ?_
      refine .skip rfl rfl ?_
      refine .skip rfl rfl ?_
      refine .p rfl rfl (.pickF rfl rfl) ?_
      refine .p rfl rfl (.pickF rfl rfl) ?_
      refine .p rfl rfl (.as rfl) ?_
      refine .nil (.code ?_)
      refine .ret _ rfl ?_
      exact ⟨by unfold outK; rw [c9, decide_eq_false c12]; rfl, N3.ext⟩
theorem TRange_fn {w : World} {v : Value} {b lo hi : Bs} (h : tBytes.rep All w v b) : Fn Try.prog 22 [v, str lo, str hi] w (fun r w2 => ∃ v', r = .tuple #[v', i64 (rangeT b lo hi).2] ∧ OwnO tEntry (fun _ => False) 33 w2 v' (rangeT b lo hi).1 (fun k => w.heap.size ≤ k) ∧ Ext (fun _ => False) w w2) := by
  refine Fn.enter (fun w => Try.call22 _ w) Try.func22 rfl ?_
  refine .seq (.region ?_)
  refine .v rfl rfl (.box rfl) ?_
  rintro _ w4 ⟨rfl, N4⟩
  have z4 := N4.size
  refine .v rfl rfl (.box rfl) ?_
  rintro _ w5 ⟨rfl, N5⟩
  have z5 := N5.size
  refine .p rfl rfl (.as rfl) ?_
  refine .p rfl rfl (.as rfl) ?_
  refine .nil (.code (.seq (.keep [(5, _), (4, _), (0, _)] ⟨rfl, rfl, rfl, trivial⟩ (.region ?_))))
  refine .p rfl rfl (.mv rfl) ?_
  refine .call (first := []) (captured := []) rfl rfl rfl rfl (open_fn2 (tBytes.ext0 h (N4.ext.trans N5.ext))) ?_
  rintro _ w12 ⟨q12, e12, rfl, ho12, X12⟩
  have z12 := X12.size
  have B4 := (N4.blk.ext N5.ext (fun x => x)).ext X12 (fun x => x)
  have B5 := N5.blk.ext X12 (fun x => x)
  have Z12 := (N4.ext.trans N5.ext).trans X12
  refine .p rfl rfl (.mv rfl) ?_
  refine .p rfl rfl (.extract rfl rfl) ?_
  refine .p rfl rfl (.extract rfl rfl) ?_
  refine .p rfl rfl (.as rfl) ?_
  refine .p rfl rfl (.as rfl) ?_
  refine .nil (.code (.seq (.seq (.keep [(9, _), (8, _), (5, _), (4, _)] ⟨rfl, rfl, rfl, rfl, trivial⟩ (.region ?_)))))
  refine .p rfl rfl (.mv rfl) ?_
  refine .p rfl rfl (.ne rfl rfl) ?_
  refine .nil (.code (.keep [(16, _), (9, _), (8, _), (5, _), (4, _)] ⟨rfl, rfl, rfl, rfl, rfl, trivial⟩ ?_))
  refine .condD rfl (fun c16 => ?_) (fun c16 => ?_)
  · rcases ho12 with ⟨ho, rfl⟩ | ⟨he, _⟩
    case inr => exact absurd he c16
    refine .seq (.keep [(9, _)] ⟨rfl, trivial⟩ (.region ?_))
    refine .p rfl rfl (.mv rfl) ?_
    refine .p rfl rfl (.as rfl) ?_
    refine .p rfl rfl (.as rfl) ?_
    refine .nil (.code ?_)
    refine .ret _ rfl ?_
    have e : rangeT b lo hi = ([], 90) := by unfold rangeT; rw [ho]
    rw [e]
    exact ⟨_, rfl, OwnO.nil, Z12⟩
  · rcases ho12 with ⟨_, he⟩ | ⟨he, rows, p, ho, rfl, hOG⟩
    case inl => exact absurd (Decidable.not_not.1 c16) (by rw [he]; decide)
    subst he
    obtain ⟨v1, v2, v3, v4, v5, Bp, R1, R2, R3, R4, O5⟩ := hOG
    refine .skip (.code (.seq (.seq (.keep [(8, _), (5, _), (4, _)] ⟨rfl, rfl, rfl, trivial⟩ (.region ?_)))))
    refine .p rfl rfl (.load rfl rfl rfl (B4.cell 0)) ?_
    refine .p rfl rfl (.lenS rfl rfl) ?_
    refine .p rfl rfl (.gt rfl rfl) ?_
    refine .p rfl rfl (.mv rfl) ?_
    refine .caseD 21 rfl (fun c21 => ?_) (fun c21 => ?_)
    · refine .skip rfl rfl ?_
      refine .skip rfl rfl ?_
      refine .skip rfl rfl ?_
      refine .p rfl rfl (.pickT rfl rfl) ?_
      refine .nil (.code (.keep [(25, _), (8, _), (5, _), (4, _)] ⟨rfl, rfl, rfl, rfl, trivial⟩ (.condT rfl (.seq (.keep [] trivial (.region ?_))))))
      refine .p rfl rfl (.as rfl) ?_
      refine .p rfl rfl (.as rfl) ?_
      refine .nil (.code ?_)
      refine .ret _ rfl ?_
      have e : rangeT b lo hi = ([], 3) := by unfold rangeT; rw [ho]; simp only; rw [if_pos (by omega)]
      rw [e]
      exact ⟨_, rfl, OwnO.nil, Z12⟩
    · refine .p rfl rfl (.load rfl rfl rfl (B5.cell 0)) ?_
      refine .p rfl rfl (.lenS rfl rfl) ?_
      refine .p rfl rfl (.gt rfl rfl) ?_
      refine .p rfl rfl (.pickF rfl rfl) ?_
      refine .nil (.code (.keep [(25, _), (8, _), (5, _), (4, _)] ⟨rfl, rfl, rfl, rfl, trivial⟩ ?_))
      refine .condD rfl (fun c25 => ?_) (fun c25 => ?_)
      · refine .seq (.keep [] trivial (.region ?_))
        refine .p rfl rfl (.as rfl) ?_
        refine .p rfl rfl (.as rfl) ?_
        refine .nil (.code ?_)
        refine .ret _ rfl ?_
        have e : rangeT b lo hi = ([], 3) := by unfold rangeT; rw [ho]; simp only; rw [if_pos (by omega)]
        rw [e]
        exact ⟨_, rfl, OwnO.nil, Z12⟩
      · refine .skip (.code (.seq (.keep [(8, _), (5, _), (4, _)] ⟨rfl, rfl, rfl, trivial⟩ (.region ?_))))
        refine .p rfl rfl (.mv rfl) ?_
        refine .p rfl rfl (.nilCheck rfl) ?_
        refine .p rfl rfl (.fieldAddr rfl rfl rfl rfl) ?_
        refine .p rfl rfl (.load rfl rfl rfl (Bp.cell 4)) ?_
        refine .p rfl rfl (.makeFunc rfl rfl) ?_
        refine .call (first := []) (captured := []) rfl rfl rfl rfl (DeleteFunc_fn (f := 58) (cap := [.pointer (some ⟨w.heap.size, 0, none⟩), .pointer (some ⟨w4.heap.size, 0, none⟩)]) (p := outK lo hi) O5 (fun x u w' hu hx => TRangeC_fn hu (B4.ext hx (fun hh => by have hh : w5.heap.size ≤ w.heap.size := hh; omega)) (B5.ext hx (fun hh => by have hh : w5.heap.size ≤ w4.heap.size := hh; omega)))) ?_
        rintro r31 w31 ⟨O31, Y31⟩
        refine .p rfl rfl (.as rfl) ?_
        refine .p rfl rfl (.as rfl) ?_
        refine .nil (.code ?_)
        refine .ret _ rfl ?_
        have e : rangeT b lo hi = ((entsR rows).filter (fun x => !outK lo hi x), 0) := by unfold rangeT; rw [ho]; simp only; rw [if_neg (by omega)]
        rw [e]
        exact ⟨_, rfl, OwnO.mono O31 (fun _ h _ => h) (fun k h _ => by have h : w5.heap.size ≤ k := h; show w.heap.size ≤ k; omega), Z12.then Y31 (fun k h _ => by have h : w5.heap.size ≤ k := h; omega)⟩
theorem TAll_fn {w : World} {v : Value} {b : Bs} (h : tBytes.rep All w v b) : Fn Try.prog 24 [v] w (fun r w2 => ∃ v', r = .tuple #[v', i64 (rangeT b [] []).2] ∧ OwnO tEntry (fun _ => False) 33 w2 v' (rangeT b [] []).1 (fun k => w.heap.size ≤ k) ∧ Ext (fun _ => False) w w2) := by
  refine Fn.enter (fun w => Try.call24 _ w) Try.func24 rfl ?_
  refine .seq (.region ?_)
  refine .p rfl rfl (.as rfl) ?_
  refine .p rfl rfl (.as rfl) ?_
  refine .nil (.code (.seq (.keep [(0, _)] ⟨rfl, trivial⟩ (.region ?_))))
  refine .p rfl rfl (.mv rfl) ?_
  refine .call (first := []) (captured := []) rfl rfl rfl rfl (TRange_fn (lo := []) (hi := []) h) ?_
  rintro _ w5 ⟨v5, rfl, O5, X5⟩
  refine .p rfl rfl (.extract rfl rfl) ?_
  refine .p rfl rfl (.extract rfl rfl) ?_
  refine .p rfl rfl (.as rfl) ?_
  refine .p rfl rfl (.as rfl) ?_
  refine .nil (.code ?_)
  refine .ret _ rfl ?_
  exact ⟨_, rfl, O5, X5⟩
end Go.Proofs.Ythkgadhamecnlaa
