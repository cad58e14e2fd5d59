import Derived.Test.YtpfehnopghffjaaGreatDoorQ27
import Derived.Test.YtpfehnopghffjaaGreatDoorRows
import Derived.Test.YtpfehnopghffjaaGreatDoorQ14
import Derived.LaidLaws
import Derived.LaidHandle
import Derived.RowKit
import Derived.RowKitTokens
import Derived.ProofKit
import Derived.OpenShut
import Derived.Stop.Joined
import Derived.Deep.DeepLaidRun
set_option linter.unusedVariables false
set_option linter.unusedSimpArgs false
set_option maxRecDepth 20000
/-
  The statements of chapter 04: the files behind changes, by the words alone; has a disk just these files?
-/
namespace Go.Proofs.YtpfehnopghffjaaGreatDoor
open Go
open room files
namespace files
def chg (p : NV) : Change := ⟨p.1, p.2, false⟩
def ltP (c p : Change) : Bool := Op.bytesLess p.key c.key
def gtP (c p : Change) : Bool := Op.bytesLess c.key p.key
def midP (c : Change) : List Change := if c.gone = true then [] else [⟨c.key, c.value, false⟩]
theorem midP_le (c : Change) : (midP c).length ≤ 1 := by unfold midP; split <;> simp
def stepC (out : List Change) (c : Change) : List Change := out.filter (ltP c) ++ midP c ++ out.filter (gtP c)
theorem stepC_map (vs : List NV) (c : Change) : stepC (vs.map chg) c = (stepV vs c).map chg := by
  unfold stepC stepV midP
  rw [List.map_append, List.map_append, List.filter_map, List.filter_map]
  congr 2
  split <;> rfl
theorem foldC_map : ∀ (l : List Change) (vs : List NV), l.foldl stepC (vs.map chg) = (l.foldl stepV vs).map chg
  | [], vs => rfl
  | c :: l, vs => by rw [List.foldl_cons, stepC_map, foldC_map l]; rfl
theorem two_filters {p q : Change → Bool} (h : ∀ x, p x = true → ¬ q x = true) (out : List Change) : (out.filter p).length + (out.filter q).length ≤ out.length := by
  induction out with
  | nil => simp
  | cons x out ih =>
    by_cases h1 : p x = true
    · have h2 := h x h1
      rw [List.filter_cons_of_pos h1, List.filter_cons_of_neg h2]
      simp only [List.length_cons]
      omega
    · rw [List.filter_cons_of_neg h1]
      have := List.length_filter_le q [x]
      by_cases h2 : q x = true
      · rw [List.filter_cons_of_pos h2]; simp only [List.length_cons]; omega
      · rw [List.filter_cons_of_neg h2]; simp only [List.length_cons]; omega
theorem stepC_length (out : List Change) (c : Change) : (stepC out c).length ≤ out.length + 1 := by
  have := two_filters (p := ltP c) (q := gtP c) (fun x h1 h2 => bl_asymm h1 h2) out
  have h2 := midP_le c
  unfold stepC
  rw [List.length_append, List.length_append]
  omega
theorem fold_step {l : List Change} {i : Nat} (h : i < l.length) (out : List Change) : (l.take (i + 1)).foldl stepC out = stepC ((l.take i).foldl stepC out) l[i] := by
  rw [List.take_succ_eq_append_getElem h, List.foldl_append]
  rfl
theorem filter_step {p : Change → Bool} {l : List Change} {i : Nat} (h : i < l.length) : (l.take (i + 1)).filter p = (l.take i).filter p ++ (if p l[i] = true then [l[i]] else []) := by
  rw [List.take_succ_eq_append_getElem h, List.filter_append]
  congr 1
  by_cases hp : p l[i] = true
  · rw [if_pos hp, List.filter_cons_of_pos hp, List.filter_nil]
  · rw [if_neg hp, List.filter_cons_of_neg hp, List.filter_nil]
theorem mount_nodir {d : Disk} (h : ¬ (mountF d).2.2 = 0) : (mountF d).1 = nodir := by
  by_cases h1 : disk.checkF d = 0
  · by_cases h2 : d.count < 96
    · rw [mountF_96 h1 h2]
    · by_cases h3 : slotOK d 0 ∧ ¬ (slotOK d 8 ∧ (slotF d 0).gen < (slotF d 8).gen)
      · rw [mountF_0 h1 h2 h3.1 h3.2] at h; exact absurd rfl h
      · by_cases h4 : slotOK d 8
        · rw [mountF_8 h1 h2 h3 h4] at h; exact absurd rfl h
        · rw [mountF_40 h1 h2 (fun h0 => h3 ⟨h0, fun k => h4 k.1⟩) h4]
  · rw [mountF_e h1]
theorem view_at {d : Disk} {i : Nat} (h : i < (mountF d).1.fs.length) : getF d (mountF d).1.fs[i].name = (bytesF d (mountF d).1.fs[i], 0) := by
  refine get_at (Decidable.byContradiction fun h2 => ?_) h
  rw [mount_nodir h2] at h
  exact absurd h (Nat.not_lt_zero _)
theorem view_take {d : Disk} {i : Nat} (h : i < (mountF d).1.fs.length) : ((viewF d).map chg).take (i + 1) = ((viewF d).map chg).take i ++ [⟨(mountF d).1.fs[i].name, bytesF d (mountF d).1.fs[i], false⟩] := by
  have e : (viewF d).map chg = (mountF d).1.fs.map (fun f => chg (f.name, bytesF d f)) := by unfold viewF; rw [List.map_map]; rfl
  rw [e, List.take_succ_eq_append_getElem (by rw [List.length_map]; exact h), List.getElem_map]
  rfl
theorem view_length (d : Disk) : ((viewF d).map chg).length = (mountF d).1.fs.length := by unfold viewF; rw [List.length_map, List.length_map]
theorem map2_fold (d : Disk) (l : List Change) : (map2F d l).map chg = l.foldl stepC ((viewF d).map chg) := (foldC_map l (viewF d)).symm
end files
theorem gt_less (a b : Bs) : (!Op.bytesLess a b && !a == b) = Op.bytesLess b a := by
  rcases bl_tri a b with h | h | h
  · rw [h, Bool.eq_false_iff.2 (bl_asymm h)]; rfl
  · subst h
    rw [Bool.eq_false_iff.2 (bl_irr a)]; simp
  · rw [h, Bool.eq_false_iff.2 (bl_asymm h)]
    have : ¬ a = b := fun e => by subst e; exact bl_irr a h
    simpa using this
theorem Ev.gtS {P : Program} {e : Env} {w : World} {x y : Operand} {T T' : TypeId} {a b : Bs} (hx : look e x = some (str a)) (hy : look e y = some (str b)) : Ev P e (.binOp .gtr T x y T') w (.bool (Op.bytesLess b a)) :=
  fun w' _ ρ hρ o ho => by
    have h1 : (bs a).toList = a := bs_toList a
    have h2 : (bs b).toList = b := bs_toList b
    simp [execOp, ho, hρ _ _ hx, hρ _ _ hy, eqGuard, binOp, Op.stringOp, h1, h2]
    exact gt_less a b
attribute [local irreducible] files.getF files.namesF mountF bytesF viewF map2F
theorem map2_fn {w : World} {v vl : Value} {d : Disk} {l : List Change} (h : disk.tDisk.rep All w v d) (hl : (Sl tree.tChange).rep All w vl l) (hn : l.length ≤ 200) (hg : GOK w) : Fn Tryz.prog 108 [v, vl] w (fun r w2 => OwnO tree.tChange (fun _ => False) 80 w2 r ((map2F d l).map chg) (fun k => w.heap.size ≤ k) ∧ Ext (fun _ => False) w w2) := by
  have h0 := h
  obtain ⟨u1, u2, rfl, hd1, hd2, hdc⟩ := disk.tDisk.val h
  obtain ⟨a1, k1, rfl, _⟩ := Sl.val hd1
  obtain ⟨a2, k2, rfl, _⟩ := Sl.val hd2
  obtain ⟨al, kl, rfl, _⟩ := Sl.val hl
  have h32 := mount_32 d
  have hvl := view_length d
  refine Fn.enter (fun w => Tryz.call108 _ w) Tryz.func108 rfl ?_
  refine .seq (.region ?_)
  refine .v rfl rfl (.box rfl) ?_
  rintro _ w2 ⟨rfl, N2⟩
  have B2 := N2.blk
  have X2 := N2.ext
  have z2 := N2.size
  refine .p rfl rfl (.as rfl) ?_
  refine .nil (.code (.seq (.keep [(2, _), (1, _)] ⟨rfl, rfl, trivial⟩ (.region ?_))))
  refine .p rfl rfl (.as rfl) ?_
  refine .nil (.code (.seq (.region ?_)))
  refine .p rfl rfl (.loadA (n := 3) rfl rfl rfl rfl rfl (B2.ext (S := fun _ => False) (by repeat (first | exact Ext.refl _ | assumption | refine Ext.trans (by assumption) ?_)) (fun x => x)).cells) ?_
  refine .call (first := []) (captured := []) rfl rfl rfl rfl (Names_fn (disk.tDisk.ext0 h0 (by repeat (first | exact Ext.refl _ | assumption | refine Ext.trans (by assumption) ?_))) (hg.ext0 (by repeat (first | exact Ext.refl _ | assumption | refine Ext.trans (by assumption) ?_)))) ?_
  rintro _ w17 ⟨v17, rfl, O17, X17⟩
  have z17 := X17.size
  have en : (namesF d).1 = (mountF d).1.fs.map (·.name) := by unfold namesF; rfl
  rw [en] at O17
  have R17 := OwnO.rep O17 (R := fun k => k < w17.heap.size) (fun _ _ hl => hl) (fun _ h _ => h.elim)
  obtain ⟨an, kn, rfl, _⟩ := OwnO.val O17
  have enl : ((mountF d).1.fs.map (·.name)).length = (mountF d).1.fs.length := List.length_map _
  refine .p rfl rfl (.mv rfl) ?_
  refine .p rfl rfl (.extract rfl rfl) ?_
  refine .p rfl rfl (.extract rfl rfl) ?_
  refine .p rfl rfl (.as rfl) ?_
  refine .p rfl rfl (.as rfl) ?_
  refine .nil (.code (.seq (.seq (.keep [(6, _), (5, _), (2, _), (1, _)] ⟨rfl, rfl, rfl, rfl, trivial⟩ (.region ?_)))))
  refine .p rfl rfl (.as rfl) ?_
  refine .nil (.code (.block ?_))
  refine .loop (S := Nat × Value × World) (fun s => [(1, .slice al l.length kl), (2, .pointer (some ⟨w.heap.size, 0, none⟩)), (5, s.2.1), (6, .slice an ((mountF d).1.fs.map (·.name)).length kn), (8, i64 s.1)]) (fun s => s.2.2) (fun s => s.1 ≤ (mountF d).1.fs.length ∧ OwnO tree.tChange (fun _ => False) 80 s.2.2 s.2.1 (((viewF d).map chg).take s.1) (fun k => w17.heap.size ≤ k) ∧ Ext (fun _ => False) w17 s.2.2) (fun s => (mountF d).1.fs.length - s.1) (0, .slice none 0 0, w17) ⟨rfl, rfl, rfl, rfl, rfl, trivial⟩ rfl ⟨Nat.zero_le _, OwnO.nil, .refl _⟩ ?_
  rintro ⟨i, vi, wi⟩ J ⟨hi', hO, hX⟩ again
  simp only at hi' hO hX
  have zi := hX.size
  have htl := List.length_take (i := i) (l := ((viewF d).map chg))
  change G _ [(1, .slice al l.length kl), (2, .pointer (some ⟨w.heap.size, 0, none⟩)), (5, vi), (6, .slice an ((mountF d).1.fs.map (·.name)).length kn), (8, i64 i)] _ _ wi
  refine .seq (.seq (.region ?_))
  refine .p rfl rfl (.mv rfl) ?_
  refine .p rfl rfl (.mv rfl) ?_
  refine .p rfl rfl (.len rfl rfl) ?_
  refine .p rfl rfl (.lt rfl rfl) ?_
  refine .nil (.code (.keep [(23, _), (1, _), (2, _), (5, _), (6, _), (8, _)] ⟨rfl, rfl, rfl, rfl, rfl, rfl, trivial⟩ ?_))
  refine .condD rfl (fun c23 => ?_) (fun c23 => ?_)
  · have hi : i < (mountF d).1.fs.length := by omega
    obtain ⟨bn, on, rfl, hbn, hcn, hnl⟩ := Sl.strAt R17 (k := i) (by omega)
    rw [List.getElem_map] at hcn hnl
    refine .skip (.code (.seq (.block (.seq (.keep [(1, _), (2, _), (5, _), (6, _), (8, _)] ⟨rfl, rfl, rfl, rfl, rfl, trivial⟩ (.mix (fun _ => False) [5] (by kernel_rfl) (by kernel_rfl) (by kernel_rfl) ?_))))))
    refine .p rfl rfl rfl (fun wx hx => .loadA (n := 3) rfl rfl rfl rfl rfl (B2.ext (S := fun _ => False) (Ext.trans (by repeat (first | exact Ext.refl _ | assumption | refine Ext.trans (by assumption) ?_)) hx) (fun x => x)).cells) ?_
    refine .p rfl rfl rfl (fun wx hx => .mv rfl) ?_
    refine .p rfl rfl rfl (fun wx hx => .mv rfl) ?_
    refine .p rfl rfl rfl (fun wx hx => .indexAddr1 rfl rfl rfl rfl (by omega)) ?_
    refine .p rfl rfl rfl (fun wx hx => .load rfl rfl rfl (Ext.cell (Ext.trans (by repeat (first | exact Ext.refl _ | assumption | refine Ext.trans (by assumption) ?_)) hx) hcn (fun h => h))) ?_
    refine .call (first := []) (captured := []) rfl rfl rfl rfl rfl (FileGet_fn (d := d) (s := (mountF d).1.fs[i].name) (disk.tDisk.ext0 h0 (by repeat (first | exact Ext.refl _ | assumption | refine Ext.trans (by assumption) ?_))) hnl (hg.ext0 (by repeat (first | exact Ext.refl _ | assumption | refine Ext.trans (by assumption) ?_)))) (by rintro _ _ ⟨_, _, _, hx⟩; exact Ext.trans (by repeat (first | exact Ext.refl _ | assumption | refine Ext.trans (by assumption) ?_)) hx) ?_
    rintro _ w32 ⟨v32, rfl, G32, X32⟩
    have z32 := X32.size
    rw [view_at hi] at G32 ⊢
    have hbl := Sl.lim (Gr.rep G32)
    have hO := OwnO.mono hO (fun _ h _ => h) (B' := fun k => w17.heap.size ≤ k ∧ k < wi.heap.size) (fun k h hl => ⟨h, hl⟩)
    refine .p rfl rfl rfl (fun wx hx => .mv rfl) ?_
    refine .p rfl rfl rfl (fun wx hx => .extract rfl rfl) ?_
    refine .p rfl rfl rfl (fun wx hx => .extract rfl rfl) ?_
    refine .p rfl rfl rfl (fun wx hx => .as rfl) ?_
    refine .p rfl rfl rfl (fun wx hx => .as rfl) ?_
    refine .nil (.code (.keep [(9, _), (1, _), (2, _), (5, _), (6, _), (8, _)] ⟨rfl, rfl, rfl, rfl, rfl, rfl, trivial⟩ (.mix ((fun k => w17.heap.size ≤ k ∧ (k < wi.heap.size ∨ w32.heap.size ≤ k))) [7, 8, 9] (by kernel_rfl) (by kernel_rfl) (by kernel_rfl) ?_)))
    refine .p rfl rfl rfl (fun wx hx => .mv rfl) ?_
    refine .p rfl rfl rfl (fun wx hx => .mv rfl) ?_
    refine .p rfl rfl rfl (fun wx hx => .mv rfl) ?_
    refine .p rfl rfl rfl (fun wx hx => .indexAddr1 rfl rfl rfl rfl (by omega)) ?_
    refine .p rfl rfl rfl (fun wx hx => .load rfl rfl rfl (hx.cell (Ext.cell (by repeat (first | exact Ext.refl _ | assumption | refine Ext.trans (by assumption) ?_)) hcn (fun h => h)) (fun h => by have h : w17.heap.size ≤ bn ∧ _ := h; omega))) ?_
    refine .p rfl rfl rfl (fun wx hx => .mv rfl) ?_
    refine .p rfl rfl rfl (fun wx hx => .bytesStr rfl (tBytes.ext (Gr.rep' G32) hx (fun k hk _ h => by have hk : wi.heap.size ≤ k ∧ k < w32.heap.size := hk; have h : w17.heap.size ≤ k ∧ (k < wi.heap.size ∨ w32.heap.size ≤ k) := h; omega)) rfl rfl rfl) ?_
    refine .call (first := []) (captured := []) rfl rfl rfl rfl rfl (lawPut_fn) (by rintro _ _ ⟨_, hx⟩; exact hx.mono (fun _ _ h => h.elim)) ?_
    rintro _ w42 ⟨rfl, X42⟩
    have z42 := X42.size
    refine .v rfl rfl rfl (.lits rfl rfl (fun _ => by kernel_rfl)) (by rintro _ _ ⟨_, hN⟩; exact (X42.mono (fun _ _ h => h.elim)).trans hN.ext0) ?_
    rintro _ w43 ⟨rfl, N43⟩
    have z43 := N43.size
    have X43 := N43.ext
    refine .v rfl rfl rfl (.appendLo (t := tree.tChange) (xs := ((viewF d).map chg).take i) (ys := [⟨(mountF d).1.fs[i].name, bytesF d (mountF d).1.fs[i], false⟩]) (Q := fun _ => False) (B := (fun k => w17.heap.size ≤ k ∧ (k < wi.heap.size ∨ w32.heap.size ≤ k))) (eb := 40) rfl (OwnO.mono (OwnO.ext0 hO (by repeat (first | exact Ext.refl _ | assumption | refine Ext.trans (by assumption) ?_))) (fun _ h _ => h) (fun k h _ => ⟨h.1, .inl h.2⟩)) (fun k hk => ⟨by omega, .inr (by omega)⟩) rfl (.inr (New.holds (t := tree.tChange) (us := [_]) (xs := [⟨(mountF d).1.fs[i].name, bytesF d (mountF d).1.fs[i], false⟩]) N43 (.cons (tree.tChange.mk (x := ⟨(mountF d).1.fs[i].name, bytesF d (mountF d).1.fs[i], false⟩) hnl hbl) .nil) rfl)) rfl rfl rfl rfl rfl rfl rfl (by simp; omega) (by simp [Lim]; omega) (fun _ h _ => h.elim)) (by rintro _ _ ⟨_, hx⟩; exact ((X42.mono (fun _ _ h => h.elim)).trans N43.ext0).trans hx) ?_
    rintro v44 w44 ⟨O44, A44⟩
    have z44 := A44.size
    refine .p rfl rfl rfl (fun wx hx => .as rfl) ?_
    refine .nil (.blk (.code (.keep [(5, _), (1, _), (2, _), (6, _), (8, _)] ⟨rfl, rfl, rfl, rfl, rfl, trivial⟩ (.region ?_))))
    refine .p rfl rfl (.mv rfl) ?_
    refine .p rfl rfl (.add rfl rfl (by omega)) ?_
    refine .p rfl rfl (.as rfl) ?_
    refine .nil ?_
    exact (again (i + 1, v44, w44) ⟨by show i + 1 ≤ _; omega, by show OwnO _ _ _ _ _ (((viewF d).map chg).take (i + 1)) _; rw [view_take hi]; exact OwnO.mono O44 (fun _ h _ => h) (fun k h _ => h.1), (((hX.trans X32).trans X42).trans X43).then A44 (fun k h _ => h.1)⟩ (by show _ - (i + 1) < _ - i; omega)).of ⟨rfl, rfl, rfl, rfl, rfl, trivial⟩
  · obtain rfl : i = (mountF d).1.fs.length := by omega
    rw [List.take_of_length_le (by omega)] at hO
    refine .exit rfl (.code (.seq (.seq (.keep [(1, _), (5, _)] ⟨rfl, rfl, trivial⟩ (.region ?_)))))
    refine .p rfl rfl (.as rfl) ?_
    refine .nil (.code (.block ?_))
    refine .loop (S := Nat × Value × World) (fun s => [(1, .slice al l.length kl), (5, s.2.1), (11, i64 s.1)]) (fun s => s.2.2) (fun s => s.1 ≤ l.length ∧ ((l.take s.1).foldl stepC ((viewF d).map chg)).length ≤ 32 + s.1 ∧ OwnO tree.tChange (fun _ => False) 80 s.2.2 s.2.1 ((l.take s.1).foldl stepC ((viewF d).map chg)) (fun k => w17.heap.size ≤ k) ∧ Ext (fun _ => False) w17 s.2.2) (fun s => l.length - s.1) (0, vi, wi) ⟨rfl, rfl, rfl, trivial⟩ rfl ⟨Nat.zero_le _, (by show (((viewF d).map chg)).length ≤ 32 + 0; omega), hO, hX⟩ ?_
    rintro ⟨j, vj, wj⟩ J2 ⟨hj', hlj, hOj, hXj⟩ again2
    simp only at hj' hlj hOj hXj
    have zj := hXj.size
    change G _ [(1, .slice al l.length kl), (5, vj), (11, i64 j)] _ _ wj
    refine .seq (.seq (.region ?_))
    refine .p rfl rfl (.mv rfl) ?_
    refine .p rfl rfl (.mv rfl) ?_
    refine .p rfl rfl (.len rfl rfl) ?_
    refine .p rfl rfl (.lt rfl rfl) ?_
    refine .nil (.code (.keep [(48, _), (1, _), (5, _), (11, _)] ⟨rfl, rfl, rfl, rfl, trivial⟩ ?_))
    refine .condD rfl (fun c48 => ?_) (fun c48 => ?_)
    · have hj : j < l.length := by omega
      obtain ⟨bc, oc, qc, uec, ec, hbc, hcc, hre⟩ := Sl.at ((Sl tree.tChange).ext0 ((Sl tree.tChange).mono hl (P' := fun k => k < w.heap.size) (fun k _ h => h)) (show Ext (fun _ => False) w wj from (by repeat (first | exact Ext.refl _ | assumption | refine Ext.trans (by assumption) ?_)))) (List.getElem?_eq_getElem hj)
      have hbc : bc < w.heap.size := hbc
      cases ec
      obtain ⟨rfl, hkey, hval⟩ := tree.tChange.val hre
      obtain ⟨cj, hcj⟩ : ∃ c, c = l[j] := ⟨_, rfl⟩
      rw [← hcj] at hkey hval hcc hre
      obtain ⟨out, hout⟩ : ∃ o, o = (l.take j).foldl stepC ((viewF d).map chg) := ⟨_, rfl⟩
      rw [← hout] at hOj hlj
      have hfo := List.length_filter_le (ltP cj) out
      have Ro := OwnO.rep hOj (R := All) (fun _ _ _ => trivial) (fun _ h _ => h.elim)
      obtain ⟨aj, kj, rfl, _⟩ := OwnO.val hOj
      refine .skip (.code (.seq (.block (.seq (.keep [(1, _), (5, _), (11, _)] ⟨rfl, rfl, rfl, trivial⟩ (.region ?_))))))
      refine .p rfl rfl (.as rfl) ?_
      refine .nil (.code (.seq (.seq (.region ?_))))
      refine .p rfl rfl (.as rfl) ?_
      refine .nil (.code (.block ?_))
      refine .loop (S := Nat × Value × World) (fun s => [(1, .slice (some ⟨bc, oc, none⟩) l.length kl), (5, .slice aj out.length kj), (11, i64 j), (12, s.2.1), (13, i64 s.1)]) (fun s => s.2.2) (fun s => s.1 ≤ out.length ∧ OwnO tree.tChange (fun _ => False) 80 s.2.2 s.2.1 ((out.take s.1).filter (ltP cj)) (fun x => wj.heap.size ≤ x) ∧ Ext (fun _ => False) wj s.2.2) (fun s => out.length - s.1) (0, .slice none 0 0, wj) ⟨rfl, rfl, rfl, rfl, rfl, trivial⟩ rfl ⟨Nat.zero_le _, OwnO.nil, .refl _⟩ ?_
      rintro ⟨k, vk, wk⟩ J3 ⟨hk', hOk, hXk⟩ again
      simp only at hk' hOk hXk
      have zk := hXk.size
      have hfl := List.length_filter_le (ltP cj) (out.take k)
      rw [List.length_take] at hfl
      change G _ [(1, .slice (some ⟨bc, oc, none⟩) l.length kl), (5, .slice aj out.length kj), (11, i64 j), (12, vk), (13, i64 k)] _ _ wk
      refine .seq (.seq (.region ?_))
      refine .p rfl rfl (.mv rfl) ?_
      refine .p rfl rfl (.mv rfl) ?_
      refine .p rfl rfl (.len rfl rfl) ?_
      refine .p rfl rfl (.lt rfl rfl) ?_
      refine .nil (.code (.keep [(54, _), (1, _), (5, _), (11, _), (12, _), (13, _)] ⟨rfl, rfl, rfl, rfl, rfl, rfl, trivial⟩ ?_))
      refine .condD rfl (fun c54 => ?_) (fun c54 => ?_)
      · have hk : k < out.length := by omega
        obtain ⟨bo, oo, qo, ueo, eo, _, hco, hro⟩ := Sl.at ((Sl tree.tChange).ext0 Ro hXk) (List.getElem?_eq_getElem hk)
        cases eo
        obtain ⟨rfl, hok, hov⟩ := tree.tChange.val hro
        refine .skip (.code (.seq (.block (.seq (.keep [(1, _), (5, _), (11, _), (12, _), (13, _)] ⟨rfl, rfl, rfl, rfl, rfl, trivial⟩ (.draws (by kernel_rfl) (by kernel_rfl) ?_))))))
        refine .p rfl rfl (.mv rfl) ?_
        refine .p rfl rfl (.mv rfl) ?_
        refine .p rfl rfl (.indexAddr (s := 3) rfl rfl rfl rfl (by omega)) ?_
        refine .p rfl rfl (.fieldAddr rfl rfl rfl rfl) ?_
        refine .p rfl rfl (.load rfl rfl rfl (hco.ext (S := fun _ => False) (by repeat (first | exact Ext.refl _ | assumption | refine Ext.trans (by assumption) ?_)) (fun x => x) 0 _ rfl)) ?_
        refine .p rfl rfl (.mv rfl) ?_
        refine .p rfl rfl (.mv rfl) ?_
        refine .p rfl rfl (.indexAddr (s := 3) rfl rfl rfl rfl (by omega)) ?_
        refine .p rfl rfl (.fieldAddr rfl rfl rfl rfl) ?_
        refine .p rfl rfl (.load rfl rfl rfl (hcc.ext (S := fun _ => False) (by repeat (first | exact Ext.refl _ | assumption | refine Ext.trans (by assumption) ?_)) (fun x => x) 0 _ rfl)) ?_
        refine .p rfl rfl (.ltS rfl rfl) ?_
        refine .nil (.code (.keep [(67, _), (1, _), (5, _), (11, _), (12, _), (13, _)] ⟨rfl, rfl, rfl, rfl, rfl, rfl, trivial⟩ ?_))
        refine .cond rfl (fun c67 => ?_) (fun c67 => ?_)
        · refine .keep [(1, _), (5, _), (11, _), (12, _), (13, _)] ⟨rfl, rfl, rfl, rfl, rfl, trivial⟩ (.region ?_)
          refine .p rfl rfl (.mv rfl) ?_
          refine .p rfl rfl (.mv rfl) ?_
          refine .p rfl rfl (.mv rfl) ?_
          refine .p rfl rfl (.indexAddr (s := 3) rfl rfl rfl rfl (by omega)) ?_
          refine .p rfl rfl (.loadA (n := 3) rfl rfl rfl rfl rfl hco) ?_
          refine .v rfl rfl (.lits rfl rfl (fun _ => by kernel_rfl)) ?_
          rintro _ w73 ⟨rfl, N73⟩
          have z73 := N73.size
          have X73 := N73.ext
          refine .v rfl rfl (.appendLo (t := tree.tChange) (xs := (out.take k).filter (ltP cj)) (ys := [out[k]]) (Q := fun _ => False) (B := (fun k => wj.heap.size ≤ k)) (eb := 40) rfl (OwnO.mono (OwnO.ext0 hOk X73) (fun _ h _ => h) (fun k h _ => h)) (fun k hk => by show _ ≤ k; omega) rfl (.inr (New.holds (t := tree.tChange) (us := [_]) (xs := [out[k]]) N73 (.cons (tree.tChange.mk hok hov) .nil) rfl)) rfl rfl rfl rfl rfl rfl rfl (by simp; omega) (by simp [Lim]; omega) (fun _ h _ => h.elim)) ?_
          rintro v74 w74 ⟨O74, A74⟩
          have z74 := A74.size
          refine .p rfl rfl (.as rfl) ?_
          refine .nil (.blk (.code (.keep [(12, _), (1, _), (5, _), (11, _), (13, _)] ⟨rfl, rfl, rfl, rfl, rfl, trivial⟩ (.region ?_))))
          refine .p rfl rfl (.mv rfl) ?_
          refine .p rfl rfl (.add rfl rfl (by omega)) ?_
          refine .p rfl rfl (.as rfl) ?_
          refine .nil ?_
          exact (again (k + 1, v74, w74) ⟨by show k + 1 ≤ _; omega, by have hO9 := O74; show OwnO _ _ _ _ _ ((out.take (k + 1)).filter (ltP cj)) _; rw [filter_step hk, if_pos (show (ltP cj) out[k] = true from c67)]; exact hO9, (hXk.trans X73).then A74 (fun x h _ => h)⟩ (by show _ - (k + 1) < _ - k; omega)).of ⟨rfl, rfl, rfl, rfl, rfl, trivial⟩
        · refine .skip (.blk (.code (.keep [(1, _), (5, _), (11, _), (12, _), (13, _)] ⟨rfl, rfl, rfl, rfl, rfl, trivial⟩ (.region ?_))))
          refine .p rfl rfl (.mv rfl) ?_
          refine .p rfl rfl (.add rfl rfl (by omega)) ?_
          refine .p rfl rfl (.as rfl) ?_
          refine .nil ?_
          exact (again (k + 1, vk, wk) ⟨by show k + 1 ≤ _; omega, by show OwnO _ _ _ _ _ ((out.take (k + 1)).filter (ltP cj)) _; rw [filter_step hk, if_neg (fun h : (ltP cj) out[k] = true => by have h := c67.symm.trans h; cases h), List.append_nil]; exact hOk, hXk⟩ (by show _ - (k + 1) < _ - k; omega)).of ⟨rfl, rfl, rfl, rfl, rfl, trivial⟩
      · obtain rfl : k = out.length := by omega
        rw [List.take_length] at hOk
        refine .exit rfl (.code (.seq (.seq (.keep [(1, _), (5, _), (11, _), (12, _)] ⟨rfl, rfl, rfl, rfl, trivial⟩ (.region ?_)))))
        refine .p rfl rfl (.mv rfl) ?_
        refine .p rfl rfl (.mv rfl) ?_
        refine .p rfl rfl (.indexAddr (s := 3) rfl rfl rfl rfl (by omega)) ?_
        refine .p rfl rfl (.fieldAddr rfl rfl rfl rfl) ?_
        refine .p rfl rfl (.load rfl rfl rfl (hcc.ext (S := fun _ => False) (by repeat (first | exact Ext.refl _ | assumption | refine Ext.trans (by assumption) ?_)) (fun x => x) 2 _ rfl)) ?_
        refine .p rfl rfl (.not rfl) ?_
        refine .nil (.code (.keep [(80, _), (1, _), (5, _), (11, _), (12, _)] ⟨rfl, rfl, rfl, rfl, rfl, trivial⟩ ?_))
        refine .meet (S := Value × World) (fun s => [(1, .slice (some ⟨bc, oc, none⟩) l.length kl), (5, .slice aj out.length kj), (11, i64 j), (12, s.1)]) (fun s => s.2) (fun s => OwnO tree.tChange (fun _ => False) 80 s.2 s.1 (out.filter (ltP cj) ++ midP cj) (fun x => wj.heap.size ≤ x) ∧ Ext (fun _ => False) wj s.2) ?_ ?_
        · rintro ⟨vm, wm⟩ ⟨hOm, hXm⟩
          simp only at hOm hXm
          have zm := hXm.size
          have hmid := midP_le cj
          refine .code (.seq (.seq (.region ?_)))
          refine .p rfl rfl (.as rfl) ?_
          refine .nil (.code (.block ?_))
          refine .loop (S := Nat × Value × World) (fun s => [(1, .slice (some ⟨bc, oc, none⟩) l.length kl), (5, .slice aj out.length kj), (11, i64 j), (12, s.2.1), (14, i64 s.1)]) (fun s => s.2.2) (fun s => s.1 ≤ out.length ∧ OwnO tree.tChange (fun _ => False) 80 s.2.2 s.2.1 ((out.filter (ltP cj) ++ midP cj) ++ (out.take s.1).filter (gtP cj)) (fun x => wj.heap.size ≤ x) ∧ Ext (fun _ => False) wj s.2.2) (fun s => out.length - s.1) (0, vm, wm) ⟨rfl, rfl, rfl, rfl, rfl, trivial⟩ rfl ⟨Nat.zero_le _, (by show OwnO _ _ _ _ _ (_ ++ []) _; rw [List.append_nil]; exact hOm), hXm⟩ ?_
          rintro ⟨k, vk, wk⟩ J3 ⟨hk', hOk, hXk⟩ again
          simp only at hk' hOk hXk
          have zk := hXk.size
          have hfl := List.length_filter_le (gtP cj) (out.take k)
          rw [List.length_take] at hfl
          change G _ [(1, .slice (some ⟨bc, oc, none⟩) l.length kl), (5, .slice aj out.length kj), (11, i64 j), (12, vk), (14, i64 k)] _ _ wk
          refine .seq (.seq (.region ?_))
          refine .p rfl rfl (.mv rfl) ?_
          refine .p rfl rfl (.mv rfl) ?_
          refine .p rfl rfl (.len rfl rfl) ?_
          refine .p rfl rfl (.lt rfl rfl) ?_
          refine .nil (.code (.keep [(98, _), (1, _), (5, _), (11, _), (12, _), (14, _)] ⟨rfl, rfl, rfl, rfl, rfl, rfl, trivial⟩ ?_))
          refine .condD rfl (fun c98 => ?_) (fun c98 => ?_)
          · have hk : k < out.length := by omega
            obtain ⟨bo, oo, qo, ueo, eo, _, hco, hro⟩ := Sl.at ((Sl tree.tChange).ext0 Ro hXk) (List.getElem?_eq_getElem hk)
            cases eo
            obtain ⟨rfl, hok, hov⟩ := tree.tChange.val hro
            refine .skip (.code (.seq (.block (.seq (.keep [(1, _), (5, _), (11, _), (12, _), (14, _)] ⟨rfl, rfl, rfl, rfl, rfl, trivial⟩ (.draws (by kernel_rfl) (by kernel_rfl) ?_))))))
            refine .p rfl rfl (.mv rfl) ?_
            refine .p rfl rfl (.mv rfl) ?_
            refine .p rfl rfl (.indexAddr (s := 3) rfl rfl rfl rfl (by omega)) ?_
            refine .p rfl rfl (.fieldAddr rfl rfl rfl rfl) ?_
            refine .p rfl rfl (.load rfl rfl rfl (hco.ext (S := fun _ => False) (by repeat (first | exact Ext.refl _ | assumption | refine Ext.trans (by assumption) ?_)) (fun x => x) 0 _ rfl)) ?_
            refine .p rfl rfl (.mv rfl) ?_
            refine .p rfl rfl (.mv rfl) ?_
            refine .p rfl rfl (.indexAddr (s := 3) rfl rfl rfl rfl (by omega)) ?_
            refine .p rfl rfl (.fieldAddr rfl rfl rfl rfl) ?_
            refine .p rfl rfl (.load rfl rfl rfl (hcc.ext (S := fun _ => False) (by repeat (first | exact Ext.refl _ | assumption | refine Ext.trans (by assumption) ?_)) (fun x => x) 0 _ rfl)) ?_
            refine .p rfl rfl (.gtS rfl rfl) ?_
            refine .nil (.code (.keep [(111, _), (1, _), (5, _), (11, _), (12, _), (14, _)] ⟨rfl, rfl, rfl, rfl, rfl, rfl, trivial⟩ ?_))
            refine .cond rfl (fun c111 => ?_) (fun c111 => ?_)
            · refine .keep [(1, _), (5, _), (11, _), (12, _), (14, _)] ⟨rfl, rfl, rfl, rfl, rfl, trivial⟩ (.region ?_)
              refine .p rfl rfl (.mv rfl) ?_
              refine .p rfl rfl (.mv rfl) ?_
              refine .p rfl rfl (.mv rfl) ?_
              refine .p rfl rfl (.indexAddr (s := 3) rfl rfl rfl rfl (by omega)) ?_
              refine .p rfl rfl (.loadA (n := 3) rfl rfl rfl rfl rfl hco) ?_
              refine .v rfl rfl (.lits rfl rfl (fun _ => by kernel_rfl)) ?_
              rintro _ w117 ⟨rfl, N117⟩
              have z117 := N117.size
              have X117 := N117.ext
              refine .v rfl rfl (.appendLo (t := tree.tChange) (xs := (out.filter (ltP cj) ++ midP cj) ++ (out.take k).filter (gtP cj)) (ys := [out[k]]) (Q := fun _ => False) (B := (fun k => wj.heap.size ≤ k)) (eb := 40) rfl (OwnO.mono (OwnO.ext0 hOk X117) (fun _ h _ => h) (fun k h _ => h)) (fun k hk => by show _ ≤ k; omega) rfl (.inr (New.holds (t := tree.tChange) (us := [_]) (xs := [out[k]]) N117 (.cons (tree.tChange.mk hok hov) .nil) rfl)) rfl rfl rfl rfl rfl rfl rfl (by simp; omega) (by simp [Lim]; omega) (fun _ h _ => h.elim)) ?_
              rintro v118 w118 ⟨O118, A118⟩
              have z118 := A118.size
              refine .p rfl rfl (.as rfl) ?_
              refine .nil (.blk (.code (.keep [(12, _), (1, _), (5, _), (11, _), (14, _)] ⟨rfl, rfl, rfl, rfl, rfl, trivial⟩ (.region ?_))))
              refine .p rfl rfl (.mv rfl) ?_
              refine .p rfl rfl (.add rfl rfl (by omega)) ?_
              refine .p rfl rfl (.as rfl) ?_
              refine .nil ?_
              exact (again (k + 1, v118, w118) ⟨by show k + 1 ≤ _; omega, by have hO9 := O118; rw [List.append_assoc] at hO9; show OwnO _ _ _ _ _ ((out.filter (ltP cj) ++ midP cj) ++ (out.take (k + 1)).filter (gtP cj)) _; rw [filter_step hk, if_pos (show (gtP cj) out[k] = true from c111)]; exact hO9, (hXk.trans X117).then A118 (fun x h _ => h)⟩ (by show _ - (k + 1) < _ - k; omega)).of ⟨rfl, rfl, rfl, rfl, rfl, trivial⟩
            · refine .skip (.blk (.code (.keep [(1, _), (5, _), (11, _), (12, _), (14, _)] ⟨rfl, rfl, rfl, rfl, rfl, trivial⟩ (.region ?_))))
              refine .p rfl rfl (.mv rfl) ?_
              refine .p rfl rfl (.add rfl rfl (by omega)) ?_
              refine .p rfl rfl (.as rfl) ?_
              refine .nil ?_
              exact (again (k + 1, vk, wk) ⟨by show k + 1 ≤ _; omega, by show OwnO _ _ _ _ _ ((out.filter (ltP cj) ++ midP cj) ++ (out.take (k + 1)).filter (gtP cj)) _; rw [filter_step hk, if_neg (fun h : (gtP cj) out[k] = true => by have h := c111.symm.trans h; cases h), List.append_nil]; exact hOk, hXk⟩ (by show _ - (k + 1) < _ - k; omega)).of ⟨rfl, rfl, rfl, rfl, rfl, trivial⟩
          · obtain rfl : k = out.length := by omega
            rw [List.take_length] at hOk
            refine .exit rfl (.code (.keep [(1, _), (11, _), (12, _)] ⟨rfl, rfl, rfl, trivial⟩ (.region ?_)))
            refine .p rfl rfl (.mv rfl) ?_
            refine .p rfl rfl (.as rfl) ?_
            refine .nil (.blk (.code (.keep [(5, _), (1, _), (11, _)] ⟨rfl, rfl, rfl, trivial⟩ (.region ?_))))
            refine .p rfl rfl (.mv rfl) ?_
            refine .p rfl rfl (.add rfl rfl (by omega)) ?_
            refine .p rfl rfl (.as rfl) ?_
            refine .nil ?_
            exact (again2 (j + 1, vk, wk) ⟨by show j + 1 ≤ _; omega, by rw [show ((l.take (j + 1)).foldl stepC ((viewF d).map chg)) = stepC out cj by rw [fold_step hj, hout, hcj]]; have := stepC_length out cj; omega, by show OwnO _ _ _ _ _ ((l.take (j + 1)).foldl stepC ((viewF d).map chg)) _; rw [fold_step hj, ← hout, ← hcj]; exact OwnO.mono hOk (fun _ h _ => h) (fun x h _ => by have h : wj.heap.size ≤ x := h; show _ ≤ x; omega), hXj.trans hXk⟩ (by show _ - (j + 1) < _ - j; omega)).of ⟨rfl, rfl, rfl, trivial⟩
        · intro meet
          refine .cond rfl (fun c80 => ?_) (fun c80 => ?_)
          · refine .keep [(1, _), (5, _), (11, _), (12, _)] ⟨rfl, rfl, rfl, rfl, trivial⟩ (.mix ((fun k => wj.heap.size ≤ k)) [11, 12, 13] (by kernel_rfl) (by kernel_rfl) (by kernel_rfl) ?_)
            refine .p rfl rfl rfl (fun wx hx => .mv rfl) ?_
            refine .p rfl rfl rfl (fun wx hx => .mv rfl) ?_
            refine .p rfl rfl rfl (fun wx hx => .mv rfl) ?_
            refine .p rfl rfl rfl (fun wx hx => .indexAddr (s := 3) rfl rfl rfl rfl (by omega)) ?_
            refine .p rfl rfl rfl (fun wx hx => .fieldAddr rfl rfl rfl rfl) ?_
            refine .p rfl rfl rfl (fun wx hx => .load rfl rfl rfl ((hcc.ext (S := fun _ => False) (by repeat (first | exact Ext.refl _ | assumption | refine Ext.trans (by assumption) ?_)) (fun x => x)).ext hx (fun h => by have h : wj.heap.size ≤ bc := h; omega) 0 _ rfl)) ?_
            refine .p rfl rfl rfl (fun wx hx => .mv rfl) ?_
            refine .p rfl rfl rfl (fun wx hx => .mv rfl) ?_
            refine .p rfl rfl rfl (fun wx hx => .indexAddr (s := 3) rfl rfl rfl rfl (by omega)) ?_
            refine .p rfl rfl rfl (fun wx hx => .fieldAddr rfl rfl rfl rfl) ?_
            refine .p rfl rfl rfl (fun wx hx => .load rfl rfl rfl ((hcc.ext (S := fun _ => False) (by repeat (first | exact Ext.refl _ | assumption | refine Ext.trans (by assumption) ?_)) (fun x => x)).ext hx (fun h => by have h : wj.heap.size ≤ bc := h; omega) 1 _ rfl)) ?_
            refine .call (first := []) (captured := []) rfl rfl rfl rfl rfl (lawPut_fn) (by rintro _ _ ⟨_, hx⟩; exact hx.mono (fun _ _ h => h.elim)) ?_
            rintro _ w92 ⟨rfl, X92⟩
            have z92 := X92.size
            refine .v rfl rfl rfl (.lits rfl rfl (fun _ => by kernel_rfl)) (by rintro _ _ ⟨_, hN⟩; exact (X92.mono (fun _ _ h => h.elim)).trans hN.ext0) ?_
            rintro _ w93 ⟨rfl, N93⟩
            have z93 := N93.size
            have X93 := N93.ext
            refine .v rfl rfl rfl (.appendLo (t := tree.tChange) (xs := out.filter (ltP cj)) (ys := [⟨cj.key, cj.value, false⟩]) (Q := fun _ => False) (B := (fun k => wj.heap.size ≤ k)) (eb := 40) rfl (OwnO.mono (OwnO.ext0 hOk (by repeat (first | exact Ext.refl _ | assumption | refine Ext.trans (by assumption) ?_))) (fun _ h _ => h) (fun k h _ => h)) (fun k hk => by show _ ≤ k; omega) rfl (.inr (New.holds (t := tree.tChange) (us := [_]) (xs := [⟨cj.key, cj.value, false⟩]) N93 (.cons (tree.tChange.mk (x := ⟨cj.key, cj.value, false⟩) hkey hval) .nil) rfl)) rfl rfl rfl rfl rfl rfl rfl (by simp; omega) (by simp [Lim]; omega) (fun _ h _ => h.elim)) (by rintro _ _ ⟨_, hx⟩; exact ((X92.mono (fun _ _ h => h.elim)).trans N93.ext0).trans hx) ?_
            rintro v94 w94 ⟨O94, A94⟩
            have z94 := A94.size
            refine .p rfl rfl rfl (fun wx hx => .as rfl) ?_
            refine .nil ?_
            exact (meet (v94, w94) ⟨by rw [show midP cj = [⟨cj.key, cj.value, false⟩] by unfold midP; rw [if_neg (by simpa using c80)]]; exact O94, ((hXk.trans X92).trans X93).then A94 (fun x h _ => h)⟩).of ⟨rfl, rfl, rfl, rfl, trivial⟩
          · refine .skip ?_
            exact (meet (vk, wk) ⟨by rw [show midP cj = [] by unfold midP; rw [if_pos (by simpa using c80)], List.append_nil]; exact hOk, hXk⟩).of ⟨rfl, rfl, rfl, rfl, trivial⟩
    · refine .exit rfl (.code (.seq (.keep [(5, _)] ⟨rfl, trivial⟩ (.region ?_))))
      refine .p rfl rfl (.mv rfl) ?_
      refine .p rfl rfl (.as rfl) ?_
      refine .nil (.code ?_)
      refine .ret _ rfl ?_
      rw [map2_fold]
      obtain rfl : j = l.length := by omega
      rw [List.take_length] at hOj
      exact ⟨OwnO.mono hOj (fun _ h _ => h) (fun k h _ => by have h : w17.heap.size ≤ k := h; show _ ≤ k; omega), (by repeat (first | exact Ext.refl _ | assumption | refine Ext.trans (by assumption) ?_))⟩
end Go.Proofs.YtpfehnopghffjaaGreatDoor
/-
  The statements of chapter 04: has a disk just these files?
-/
namespace Go.Proofs.YtpfehnopghffjaaGreatDoor
open Go
open room files
namespace files
theorem holds_at {x : Disk} {M : List NV} (h : files.Holds x M) {i : Nat} (hi : i < (M.map chg).length) (hi2 : i < (namesF x).1.length) : getF x (M.map chg)[i].key = ((M.map chg)[i].value, 0) ∧ (namesF x).1[i] = (M.map chg)[i].key := by
  obtain ⟨h1, h2⟩ := view_get h
  have hm : i < M.length := by simpa using hi
  have e : (M.map chg)[i] = chg M[i] := List.getElem_map _
  rw [e]
  refine ⟨h2 _ (List.getElem_mem hm), ?_⟩
  have h3 : (namesF x).1 = M.map (·.1) := by rw [h1]
  simp only [h3, List.getElem_map]
  rfl
end files
attribute [local irreducible] files.getF files.namesF map2F
theorem holds_fn {w : World} {vx v vl : Value} {x d : Disk} {l : List Change} (hx : disk.tDisk.rep All w vx x) (h : disk.tDisk.rep All w v d) (hl : (Sl tree.tChange).rep All w vl l) (hn : l.length ≤ 200) (hg : GOK w) : Fn Tryz.prog 37 [vx, v, vl] w (fun r w2 => ∃ b, r = .bool b ∧ (files.Holds x (map2F d l) → b = true) ∧ Ext (fun _ => False) w w2) := by
  have hx0 := hx
  have h0 := h
  clear hx
  obtain ⟨u1x, u2x, rfl, hd1x, hd2x, hdcx⟩ := disk.tDisk.val hx0
  obtain ⟨a1x, k1x, rfl, _⟩ := Sl.val hd1x
  obtain ⟨a2x, k2x, rfl, _⟩ := Sl.val hd2x
  obtain ⟨u1d, u2d, rfl, hd1d, hd2d, hdcd⟩ := disk.tDisk.val h0
  obtain ⟨a1d, k1d, rfl, _⟩ := Sl.val hd1d
  obtain ⟨a2d, k2d, rfl, _⟩ := Sl.val hd2d
  refine Fn.enter (fun w => Tryz.call37 _ w) Tryz.func37 rfl ?_
  refine .seq (.region ?_)
  refine .v rfl rfl (.box rfl) ?_
  rintro _ w3 ⟨rfl, N3⟩
  have B3 := N3.blk
  have X3 := N3.ext
  have z3 := N3.size
  refine .v rfl rfl (.box rfl) ?_
  rintro _ w4 ⟨rfl, N4⟩
  have B4 := N4.blk
  have X4 := N4.ext
  have z4 := N4.size
  refine .p rfl rfl (.as rfl) ?_
  refine .nil (.code (.seq (.keep [(4, _), (3, _), (2, _)] ⟨rfl, rfl, rfl, trivial⟩ (.region ?_))))
  refine .p rfl rfl (.loadA (n := 3) rfl rfl rfl rfl rfl (B4.ext (S := fun _ => False) (by repeat (first | exact Ext.refl _ | assumption | refine Ext.trans (by assumption) ?_)) (fun x => x)).cells) ?_
  refine .p rfl rfl (.mv rfl) ?_
  refine .call (first := []) (captured := []) rfl rfl rfl rfl (map2_fn (disk.tDisk.ext0 h0 (by repeat (first | exact Ext.refl _ | assumption | refine Ext.trans (by assumption) ?_))) ((Sl tree.tChange).ext0 hl (by repeat (first | exact Ext.refl _ | assumption | refine Ext.trans (by assumption) ?_))) hn (hg.ext0 (by repeat (first | exact Ext.refl _ | assumption | refine Ext.trans (by assumption) ?_)))) ?_
  rintro v15 w15 ⟨O15, X15⟩
  have z15 := X15.size
  have R15 := OwnO.rep O15 (R := All) (fun _ _ _ => trivial) (fun _ h _ => h.elim)
  obtain ⟨aw, kw, rfl, _⟩ := OwnO.val O15
  have hwl := OwnO.lim O15
  simp only [Lim] at hwl
  refine .p rfl rfl (.as rfl) ?_
  refine .nil (.code (.seq (.keep [(7, _), (3, _)] ⟨rfl, rfl, trivial⟩ (.region ?_))))
  refine .p rfl rfl (.loadA (n := 3) rfl rfl rfl rfl rfl (B3.ext (S := fun _ => False) (by repeat (first | exact Ext.refl _ | assumption | refine Ext.trans (by assumption) ?_)) (fun x => x)).cells) ?_
  refine .call (first := []) (captured := []) rfl rfl rfl rfl (Names_fn (disk.tDisk.ext0 hx0 (by repeat (first | exact Ext.refl _ | assumption | refine Ext.trans (by assumption) ?_))) (hg.ext0 (by repeat (first | exact Ext.refl _ | assumption | refine Ext.trans (by assumption) ?_)))) ?_
  rintro _ w18 ⟨v18, rfl, O18, X18⟩
  have z18 := X18.size
  have R18 := OwnO.rep O18 (R := All) (fun _ _ _ => trivial) (fun _ h _ => h.elim)
  obtain ⟨an, kn, rfl, _⟩ := OwnO.val O18
  have hnl := OwnO.lim O18
  simp only [Lim] at hnl
  refine .p rfl rfl (.mv rfl) ?_
  refine .p rfl rfl (.extract rfl rfl) ?_
  refine .p rfl rfl (.extract rfl rfl) ?_
  refine .p rfl rfl (.as rfl) ?_
  refine .p rfl rfl (.as rfl) ?_
  refine .nil (.code (.seq (.seq (.keep [(9, _), (8, _), (7, _), (3, _)] ⟨rfl, rfl, rfl, rfl, trivial⟩ (.region ?_)))))
  refine .p rfl rfl (.mv rfl) ?_
  refine .p rfl rfl (.ne rfl rfl) ?_
  refine .p rfl rfl (.mv rfl) ?_
  refine .caseD 23 rfl (fun c23 => ?_) (fun c23 => ?_)
  · refine .skip rfl rfl ?_
    refine .skip rfl rfl ?_
    refine .skip rfl rfl ?_
    refine .skip rfl rfl ?_
    refine .skip rfl rfl ?_
    refine .p rfl rfl (.pickT rfl rfl) ?_
    refine .nil (.code (.keep [(29, _), (8, _), (7, _), (3, _)] ⟨rfl, rfl, rfl, rfl, trivial⟩ (.condT rfl (.seq (.keep [] trivial (.region ?_))))))
    refine .p rfl rfl (.as rfl) ?_
    refine .nil (.code ?_)
    refine .ret _ rfl ?_
    first
      | exact ⟨true, rfl, fun _ => rfl, (by repeat (first | exact Ext.refl _ | assumption | refine Ext.trans (by assumption) ?_))⟩
      | (refine ⟨false, rfl, fun hh => ?_, (by repeat (first | exact Ext.refl _ | assumption | refine Ext.trans (by assumption) ?_))⟩
         have hh1 := (view_get hh).1
         have hh2 : (namesF x).1.length = ((map2F d l).map chg).length := by rw [hh1]; simp
         first
           | (exfalso; omega)
           | exact absurd (congrArg Prod.snd hh1) c23
           | exact absurd (congrArg (fun n : Nat => (n : Int)) hh2) c29
           | (exfalso
              have hh3 := holds_at hh hi hi2
              first
                | exact c48 (congrArg Prod.snd hh3.1)
                | exact c58 (congrArg Prod.fst hh3.1)
                | exact c69 hh3.2))
  · refine .p rfl rfl (.mv rfl) ?_
    refine .p rfl rfl (.len rfl rfl) ?_
    refine .p rfl rfl (.mv rfl) ?_
    refine .p rfl rfl (.len rfl rfl) ?_
    refine .p rfl rfl (.ne rfl rfl) ?_
    refine .p rfl rfl (.pickF rfl rfl) ?_
    refine .nil (.code (.keep [(29, _), (8, _), (7, _), (3, _)] ⟨rfl, rfl, rfl, rfl, trivial⟩ ?_))
    refine .condD rfl (fun c29 => ?_) (fun c29 => ?_)
    · refine .seq (.keep [] trivial (.region ?_))
      refine .p rfl rfl (.as rfl) ?_
      refine .nil (.code ?_)
      refine .ret _ rfl ?_
      first
        | exact ⟨true, rfl, fun _ => rfl, (by repeat (first | exact Ext.refl _ | assumption | refine Ext.trans (by assumption) ?_))⟩
        | (refine ⟨false, rfl, fun hh => ?_, (by repeat (first | exact Ext.refl _ | assumption | refine Ext.trans (by assumption) ?_))⟩
           have hh1 := (view_get hh).1
           have hh2 : (namesF x).1.length = ((map2F d l).map chg).length := by rw [hh1]; simp
           first
             | (exfalso; omega)
             | exact absurd (congrArg Prod.snd hh1) c23
             | exact absurd (congrArg (fun n : Nat => (n : Int)) hh2) c29
             | (exfalso
                have hh3 := holds_at hh hi hi2
                first
                  | exact c48 (congrArg Prod.snd hh3.1)
                  | exact c58 (congrArg Prod.fst hh3.1)
                  | exact c69 hh3.2))
    · refine .skip (.code (.seq (.seq (.keep [(8, _), (7, _), (3, _)] ⟨rfl, rfl, rfl, trivial⟩ (.region ?_)))))
      refine .p rfl rfl (.as rfl) ?_
      refine .nil (.code (.block ?_))
      have hlen : (namesF x).1.length = ((map2F d l).map chg).length := by omega
      refine .loop (S := Nat × World) (fun s => [(3, .pointer (some ⟨w.heap.size, 0, none⟩)), (7, .slice aw ((map2F d l).map chg).length kw), (8, .slice an (namesF x).1.length kn), (10, i64 s.1)]) (fun s => s.2) (fun s => s.1 ≤ ((map2F d l).map chg).length ∧ Ext (fun _ => False) w18 s.2) (fun s => ((map2F d l).map chg).length - s.1) (0, w18) ⟨rfl, rfl, rfl, rfl, trivial⟩ rfl ⟨Nat.zero_le _, .refl _⟩ ?_
      rintro ⟨i, wi⟩ J ⟨hi', hX⟩ again
      simp only at hi' hX
      have zi := hX.size
      change G _ [(3, .pointer (some ⟨w.heap.size, 0, none⟩)), (7, .slice aw ((map2F d l).map chg).length kw), (8, .slice an (namesF x).1.length kn), (10, i64 i)] _ _ wi
      refine .seq (.seq (.region ?_))
      refine .p rfl rfl (.mv rfl) ?_
      refine .p rfl rfl (.mv rfl) ?_
      refine .p rfl rfl (.len rfl rfl) ?_
      refine .p rfl rfl (.lt rfl rfl) ?_
      refine .nil (.code (.keep [(33, _), (3, _), (7, _), (8, _), (10, _)] ⟨rfl, rfl, rfl, rfl, rfl, trivial⟩ ?_))
      refine .condD rfl (fun c33 => ?_) (fun c33 => ?_)
      · have hi : i < ((map2F d l).map chg).length := by omega
        have hi2 : i < (namesF x).1.length := by omega
        obtain ⟨bo, oo, qo, ueo, eo, _, hco, hro⟩ := Sl.at ((Sl tree.tChange).ext0 R15 (by repeat (first | exact Ext.refl _ | assumption | refine Ext.trans (by assumption) ?_))) (List.getElem?_eq_getElem hi)
        cases eo
        obtain ⟨rfl, hok, hov⟩ := tree.tChange.val hro
        obtain ⟨bn, on, rfl, hbn, hcn, hnl2⟩ := Sl.strAt R18 (k := i) hi2
        refine .skip (.code (.seq (.block (.seq (.keep [(3, _), (7, _), (8, _), (10, _)] ⟨rfl, rfl, rfl, rfl, trivial⟩ (.mix (fun _ => False) [6] (by kernel_rfl) (by kernel_rfl) (by kernel_rfl) ?_))))))
        refine .p rfl rfl rfl (fun wx hx => .loadA (n := 3) rfl rfl rfl rfl rfl (B3.ext (S := fun _ => False) (Ext.trans (by repeat (first | exact Ext.refl _ | assumption | refine Ext.trans (by assumption) ?_)) hx) (fun x => x)).cells) ?_
        refine .p rfl rfl rfl (fun wx hx => .mv rfl) ?_
        refine .p rfl rfl rfl (fun wx hx => .mv rfl) ?_
        refine .p rfl rfl rfl (fun wx hx => .indexAddr (s := 3) rfl rfl rfl rfl (by omega)) ?_
        refine .p rfl rfl rfl (fun wx hx => .fieldAddr rfl rfl rfl rfl) ?_
        refine .p rfl rfl rfl (fun wx hx => .load rfl rfl rfl (hco.ext (S := fun _ => False) (Ext.trans (by repeat (first | exact Ext.refl _ | assumption | refine Ext.trans (by assumption) ?_)) hx) (fun x => x) 0 _ rfl)) ?_
        refine .call (first := []) (captured := []) rfl rfl rfl rfl rfl (FileGet_fn (d := x) (s := ((map2F d l).map chg)[i].key) (disk.tDisk.ext0 hx0 (by repeat (first | exact Ext.refl _ | assumption | refine Ext.trans (by assumption) ?_))) hok (hg.ext0 (by repeat (first | exact Ext.refl _ | assumption | refine Ext.trans (by assumption) ?_)))) (by rintro _ _ ⟨_, _, _, hx⟩; exact Ext.trans (by repeat (first | exact Ext.refl _ | assumption | refine Ext.trans (by assumption) ?_)) hx) ?_
        rintro _ w43 ⟨v43, rfl, G43, X43⟩
        have z43 := X43.size
        have R43 := Gr.rep G43
        refine .p rfl rfl rfl (fun wx hx => .mv rfl) ?_
        refine .p rfl rfl rfl (fun wx hx => .extract rfl rfl) ?_
        refine .p rfl rfl rfl (fun wx hx => .extract rfl rfl) ?_
        refine .p rfl rfl rfl (fun wx hx => .as rfl) ?_
        refine .p rfl rfl rfl (fun wx hx => .as rfl) ?_
        refine .nil (.code (.seq (.keep [(12, _), (11, _), (3, _), (7, _), (8, _), (10, _)] ⟨rfl, rfl, rfl, rfl, rfl, rfl, trivial⟩ (.draws (by kernel_rfl) (by kernel_rfl) ?_))))
        refine .p rfl rfl (.mv rfl) ?_
        refine .p rfl rfl (.ne rfl rfl) ?_
        refine .p rfl rfl (.mv rfl) ?_
        refine .caseD 48 rfl (fun c48 => ?_) (fun c48 => ?_)
        · refine .skip rfl rfl ?_
          refine .skip rfl rfl ?_
          refine .skip rfl rfl ?_
          refine .skip rfl rfl ?_
          refine .skip rfl rfl ?_
          refine .skip rfl rfl ?_
          refine .skip rfl rfl ?_
          refine .skip rfl rfl ?_
          refine .p rfl rfl (.pickT rfl rfl) ?_
          refine .p rfl rfl (.mv rfl) ?_
          refine .skip rfl rfl ?_
          refine .skip rfl rfl ?_
          refine .skip rfl rfl ?_
          refine .skip rfl rfl ?_
          refine .skip rfl rfl ?_
          refine .skip rfl rfl ?_
          refine .skip rfl rfl ?_
          refine .skip rfl rfl ?_
          refine .skip rfl rfl ?_
          refine .skip rfl rfl ?_
          refine .p rfl rfl (.pickT rfl rfl) ?_
          refine .nil (.code (.keep [(69, _), (3, _), (7, _), (8, _), (10, _)] ⟨rfl, rfl, rfl, rfl, rfl, trivial⟩ (.condT rfl (.seq (.keep [] trivial (.region ?_))))))
          refine .p rfl rfl (.as rfl) ?_
          refine .nil (.code ?_)
          refine .ret _ rfl ?_
          first
            | exact ⟨true, rfl, fun _ => rfl, (by repeat (first | exact Ext.refl _ | assumption | refine Ext.trans (by assumption) ?_))⟩
            | (refine ⟨false, rfl, fun hh => ?_, (by repeat (first | exact Ext.refl _ | assumption | refine Ext.trans (by assumption) ?_))⟩
               have hh1 := (view_get hh).1
               have hh2 : (namesF x).1.length = ((map2F d l).map chg).length := by rw [hh1]; simp
               first
                 | (exfalso; omega)
                 | exact absurd (congrArg Prod.snd hh1) c23
                 | exact absurd (congrArg (fun n : Nat => (n : Int)) hh2) c29
                 | (exfalso
                    have hh3 := holds_at hh hi hi2
                    first
                      | exact c48 (congrArg Prod.snd hh3.1)
                      | exact c58 (congrArg Prod.fst hh3.1)
                      | exact c69 hh3.2))
        · refine .p rfl rfl (.mv rfl) ?_
          refine .p rfl rfl (.bytesStr rfl R43 rfl rfl rfl) ?_
          refine .p rfl rfl (.mv rfl) ?_
          refine .p rfl rfl (.mv rfl) ?_
          refine .p rfl rfl (.indexAddr (s := 3) rfl rfl rfl rfl (by omega)) ?_
          refine .p rfl rfl (.fieldAddr rfl rfl rfl rfl) ?_
          refine .p rfl rfl (.load rfl rfl rfl (hco.ext (S := fun _ => False) (by repeat (first | exact Ext.refl _ | assumption | refine Ext.trans (by assumption) ?_)) (fun x => x) 1 _ rfl)) ?_
          refine .p rfl rfl (.neS rfl rfl) ?_
          refine .p rfl rfl (.pickF rfl rfl) ?_
          refine .p rfl rfl (.mv rfl) ?_
          refine .caseD 58 rfl (fun c58 => ?_) (fun c58 => ?_)
          · refine .skip rfl rfl ?_
            refine .skip rfl rfl ?_
            refine .skip rfl rfl ?_
            refine .skip rfl rfl ?_
            refine .skip rfl rfl ?_
            refine .skip rfl rfl ?_
            refine .skip rfl rfl ?_
            refine .skip rfl rfl ?_
            refine .skip rfl rfl ?_
            refine .skip rfl rfl ?_
            refine .p rfl rfl (.pickT rfl rfl) ?_
            refine .nil (.code (.keep [(69, _), (3, _), (7, _), (8, _), (10, _)] ⟨rfl, rfl, rfl, rfl, rfl, trivial⟩ (.condT rfl (.seq (.keep [] trivial (.region ?_))))))
            refine .p rfl rfl (.as rfl) ?_
            refine .nil (.code ?_)
            refine .ret _ rfl ?_
            first
              | exact ⟨true, rfl, fun _ => rfl, (by repeat (first | exact Ext.refl _ | assumption | refine Ext.trans (by assumption) ?_))⟩
              | (refine ⟨false, rfl, fun hh => ?_, (by repeat (first | exact Ext.refl _ | assumption | refine Ext.trans (by assumption) ?_))⟩
                 have hh1 := (view_get hh).1
                 have hh2 : (namesF x).1.length = ((map2F d l).map chg).length := by rw [hh1]; simp
                 first
                   | (exfalso; omega)
                   | exact absurd (congrArg Prod.snd hh1) c23
                   | exact absurd (congrArg (fun n : Nat => (n : Int)) hh2) c29
                   | (exfalso
                      have hh3 := holds_at hh hi hi2
                      first
                        | exact c48 (congrArg Prod.snd hh3.1)
                        | exact c58 (congrArg Prod.fst hh3.1)
                        | exact c69 hh3.2))
          · refine .p rfl rfl (.mv rfl) ?_
            refine .p rfl rfl (.mv rfl) ?_
            refine .p rfl rfl (.indexAddr1 rfl rfl rfl rfl (by omega)) ?_
            refine .p rfl rfl (.load rfl rfl rfl (Ext.cell (by repeat (first | exact Ext.refl _ | assumption | refine Ext.trans (by assumption) ?_)) hcn (fun h => h))) ?_
            refine .p rfl rfl (.mv rfl) ?_
            refine .p rfl rfl (.mv rfl) ?_
            refine .p rfl rfl (.indexAddr (s := 3) rfl rfl rfl rfl (by omega)) ?_
            refine .p rfl rfl (.fieldAddr rfl rfl rfl rfl) ?_
            refine .p rfl rfl (.load rfl rfl rfl (hco.ext (S := fun _ => False) (by repeat (first | exact Ext.refl _ | assumption | refine Ext.trans (by assumption) ?_)) (fun x => x) 0 _ rfl)) ?_
            refine .p rfl rfl (.neS rfl rfl) ?_
            refine .p rfl rfl (.pickF rfl rfl) ?_
            refine .nil (.code (.keep [(69, _), (3, _), (7, _), (8, _), (10, _)] ⟨rfl, rfl, rfl, rfl, rfl, trivial⟩ ?_))
            refine .condD rfl (fun c69 => ?_) (fun c69 => ?_)
            · refine .seq (.keep [] trivial (.region ?_))
              refine .p rfl rfl (.as rfl) ?_
              refine .nil (.code ?_)
              refine .ret _ rfl ?_
              first
                | exact ⟨true, rfl, fun _ => rfl, (by repeat (first | exact Ext.refl _ | assumption | refine Ext.trans (by assumption) ?_))⟩
                | (refine ⟨false, rfl, fun hh => ?_, (by repeat (first | exact Ext.refl _ | assumption | refine Ext.trans (by assumption) ?_))⟩
                   have hh1 := (view_get hh).1
                   have hh2 : (namesF x).1.length = ((map2F d l).map chg).length := by rw [hh1]; simp
                   first
                     | (exfalso; omega)
                     | exact absurd (congrArg Prod.snd hh1) c23
                     | exact absurd (congrArg (fun n : Nat => (n : Int)) hh2) c29
                     | (exfalso
                        have hh3 := holds_at hh hi hi2
                        first
                          | exact c48 (congrArg Prod.snd hh3.1)
                          | exact c58 (congrArg Prod.fst hh3.1)
                          | exact c69 hh3.2))
            · refine .skip (.blk (.code (.keep [(3, _), (7, _), (8, _), (10, _)] ⟨rfl, rfl, rfl, rfl, trivial⟩ (.region ?_))))
              refine .p rfl rfl (.mv rfl) ?_
              refine .p rfl rfl (.add rfl rfl (by omega)) ?_
              refine .p rfl rfl (.as rfl) ?_
              refine .nil ?_
              exact (again (i + 1, w43) ⟨by show i + 1 ≤ _; omega, hX.trans X43⟩ (by show _ - (i + 1) < _ - i; omega)).of ⟨rfl, rfl, rfl, rfl, trivial⟩
      · refine .exit rfl (.code (.seq (.keep [] trivial (.region ?_))))
        refine .p rfl rfl (.as rfl) ?_
        refine .nil (.code ?_)
        refine .ret _ rfl ?_
        first
          | exact ⟨true, rfl, fun _ => rfl, (by repeat (first | exact Ext.refl _ | assumption | refine Ext.trans (by assumption) ?_))⟩
          | (refine ⟨false, rfl, fun hh => ?_, (by repeat (first | exact Ext.refl _ | assumption | refine Ext.trans (by assumption) ?_))⟩
             have hh1 := (view_get hh).1
             have hh2 : (namesF x).1.length = ((map2F d l).map chg).length := by rw [hh1]; simp
             first
               | (exfalso; omega)
               | exact absurd (congrArg Prod.snd hh1) c23
               | exact absurd (congrArg (fun n : Nat => (n : Int)) hh2) c29
               | (exfalso
                  have hh3 := holds_at hh hi hi2
                  first
                    | exact c48 (congrArg Prod.snd hh3.1)
                    | exact c58 (congrArg Prod.fst hh3.1)
                    | exact c69 hh3.2))
end Go.Proofs.YtpfehnopghffjaaGreatDoor
/-
  What the listed package variables give a walk; a world that lays them.
-/
namespace Go.Proofs.YtpfehnopghffjaaGreatDoor
open Go Go.RowKit files
namespace files
theorem own : ownKnob Tryz.prog.godebug = none := by kernel_rfl
theorem tyError : (List.range 305).filter (fun t => Tryz.prog.rowNamed t [101, 114, 114, 111, 114]) = [94] := by kernel_rfl
theorem tySize : Tryz.prog.types.size = 305 := by kernel_rfl
theorem tyRt : (Tryz.prog.cutTypes.find? (·.1 == "internal/reflectlite.rtype")).map (·.2) = some 235 := by kernel_rfl
theorem glErr : Tryz.prog.globalNamed "errors.errorType" = some 0 := by kernel_rfl
def L0 : List (String × DataW Unit) := [("unicode/utf8.acceptRanges", Rows.laid_unicode_utf8_acceptRanges), ("errors.errorType", Rows.laid_errors_errorType), ("unicode/utf8.first", Rows.laid_unicode_utf8_first)]
theorem gok_of_laid {W : World} (h : laidMetH Tryz.prog L0 W) : GOK W := by
  have h' : laidMet Tryz.prog [("unicode/utf8.acceptRanges", Rows.laid_unicode_utf8_acceptRanges), ("unicode/utf8.first", Rows.laid_unicode_utf8_first)] W ∧ handlesMet Tryz.prog [("errors.errorType", Rows.laid_errors_errorType)] W := h
  obtain ⟨name, u, ty, e1, e2, e3, e4, e5⟩ := h'.2 _ (List.mem_singleton.2 rfl)
  have en : name = [101, 114, 114, 111, 114] := (Option.some.inj e1).symm
  subst en
  obtain rfl := Option.some.inj (tyRt.symm.trans e2)
  have hm : ty ∈ (List.range 305).filter fun t => Tryz.prog.rowNamed t [101, 114, 114, 111, 114] := List.mem_filter.2 ⟨List.mem_range.2 (by rw [← tySize]; exact e3), e4⟩
  rw [tyError] at hm
  obtain rfl := List.mem_singleton.1 hm
  have hh : typeHandle Tryz.prog 94 = .pointer (some ⟨4, 94, none⟩) := by kernel_rfl
  rw [hh] at e5
  have := World.var?_cell glErr e5 0
  unfold GOK
  simpa using this
noncomputable def accCells : Array Value := (([128, 191, 160, 191, 128, 159, 144, 191, 128, 143] ++ List.replicate 22 0).map (fun (n : Nat) => Value.int .u8 n)).toArray
noncomputable def firstCells : Array Value := (Go.Pinned.utf8FirstZ.map (fun (n : Nat) => Value.int .u8 n)).toArray
noncomputable def putIn (cs : Array Value) : Obj → Obj
  | .cells _ t frozen => .cells cs t frozen
  | o => o
noncomputable def laidWorld (os : Os) : World :=
  { World.holding Tryz.prog os ⟨#[], #[], []⟩ with heap := (((World.holding Tryz.prog os ⟨#[], #[], []⟩).heap.modify 0 (putIn #[.iface 235 (.agg #[.pointer (some ⟨4, 94, none⟩)])])).modify 2 (putIn firstCells)).modify 3 (putIn accCells) }
theorem laid_met (os : Os) (args : Array Value) : laidMetH Tryz.prog L0 ((laidWorld os).forCall (fun _ _ => 0) ⟨#[], args, []⟩).memory :=
  laidMetH_of_parts (laidMet_of_run3 8 (by kernel_rfl) (by kernel_rfl) (by kernel_rfl)) (by kernel_rfl)
end files
end Go.Proofs.YtpfehnopghffjaaGreatDoor
