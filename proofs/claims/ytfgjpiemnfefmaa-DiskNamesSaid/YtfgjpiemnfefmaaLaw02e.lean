/-
  DiskPieces, DiskAll: walked.
-/
import Derived.Test.YtfgjpiemnfefmaaLaw02d
set_option linter.unusedVariables false
set_option linter.unusedSimpArgs false
set_option maxRecDepth 20000
namespace Go.Proofs.Ytfgjpiemnfefmaa
open Go disk
namespace disk
theorem doN_bad' (c : Int) : ∀ (l m : List Act) (out : Disk), ¬ (doN c l out).2 = 0 → doN c (l ++ m) out = doN c l out
  | [], m, out, h => absurd rfl h
  | a :: l, m, out, h => by
    rw [List.cons_append, doN, doN]
    rw [doN] at h
    split
    · rename_i h1; rw [if_pos h1] at h; exact doN_bad' c l m _ h
    · rename_i h1
      rw [if_neg h1] at h
      split
      · rfl
      · rename_i h2
        rw [if_neg h2] at h
        split
        · rfl
        · rename_i h3
          rw [if_neg h3] at h
          split
          · rfl
          · rename_i h4; rw [if_neg h4] at h; exact doN_bad' c l m _ h
theorem doN_ok (c : Int) : ∀ (l m : List Act) (out : Disk), checkF out = 0 → out.count = c → (doN c l out).2 = 0 → doN c (l ++ m) out = doN c m (doN c l out).1 ∧ checkF (doN c l out).1 = 0 ∧ (doN c l out).1.count = c
  | [], m, out, hc, hn, h => ⟨rfl, hc, hn⟩
  | a :: l, m, out, hc, hn, h => by
    rw [List.cons_append, doN, doN]
    rw [doN] at h
    split
    · rename_i h1; rw [if_pos h1] at h; exact doN_ok c l m _ (check_settle hc _) hn h
    · rename_i h1
      rw [if_neg h1] at h
      split
      · rename_i h2; rw [if_pos h2] at h; cases h
      · rename_i h2
        rw [if_neg h2] at h
        split
        · rename_i h3; rw [if_pos h3] at h; cases h
        · rename_i h3
          rw [if_neg h3] at h
          split
          · rename_i h4; rw [if_pos h4] at h; cases h
          · rename_i h4
            rw [if_neg h4] at h
            exact doN_ok c l m _ (check_put hc (by omega) ⟨by omega, by omega, by omega⟩) hn h
theorem doF_first_bad {d y : Disk} {l m : List Act} {f : Int} (h : doF d l = (y, f)) (hf : ¬ f = 0) : doF d (l ++ m) = (y, f) := by
  unfold doF at h ⊢
  split
  · rename_i h1; rw [if_pos h1] at h; exact h
  · rename_i h1
    rw [if_neg h1] at h
    rw [doN_bad' _ _ _ _ (by rw [h]; exact hf)]
    exact h
theorem doF_first_ok {d y : Disk} {l m : List Act} (h : doF d l = (y, 0)) : doF d (l ++ m) = doF y m := by
  unfold doF at h
  split at h
  · rename_i h1; exact absurd (Prod.mk.inj h).2 h1
  · rename_i h1
    have hc : checkF d = 0 := Decidable.byContradiction h1
    obtain ⟨h2, h3, h4⟩ := doN_ok d.count l m d hc rfl (by rw [h])
    rw [h] at h2 h3 h4
    unfold doF
    rw [if_neg h1, if_neg (by simp [h3]), h2, h4]
theorem settled_congr (d : Disk) (k1 k2 : Nat → Bool) : ∀ k, k ≤ d.waits.length → (∀ i, i < k → k1 i = k2 i) → settled d k1 k = settled d k2 k
  | 0, _, _ => rfl
  | k + 1, hk, h => by
    rw [settled_step (by omega), settled_step (by omega), settled_congr d k1 k2 k (by omega) (fun i hi => h i (by omega)), h k (by omega)]
theorem settled_no (d : Disk) : ∀ k, settled d (fun i => ([] : List Bool).getD i false) k = d.data
  | 0 => rfl
  | k + 1 => by
    rw [settled, settled_no d k]
    split
    · rfl
    · rfl
theorem settle_all (d : Disk) : settleD d (fun i => (List.replicate d.waits.length true).getD i false) = settleD d (fun _ => true) := by
  unfold settleD
  rw [settled_congr d _ (fun _ => true) _ (Nat.le_refl _) (fun i hi => by rw [List.getD_eq_getElem?_getD, List.getElem?_replicate, if_pos hi]; rfl)]
theorem same_none (d : Disk) : ((decide (d = (⟨d.count, d.data, []⟩ : Disk))) == (decide ((d.waits.length : Int) = 0))) = true := by
  obtain ⟨c, l, ws⟩ := d
  cases ws with
  | nil => simp
  | cons p ws => 
    rw [decide_eq_false (by simp), decide_eq_false (by simp; omega)]
    rfl
theorem each_true {P : Nat → Prop} {w : World} : ∀ n, Each (tBool.rep P w) (List.replicate n (Value.bool true)) (List.replicate n true)
  | 0 => .nil
  | n + 1 => .cons rfl (each_true n)
theorem tDisk_data {P : Nat → Prop} {w : World} {a1 a2 : Option Addr} {c1 c2 : Nat} {d : Disk} (h : tDisk.rep P w (.agg #[i64 d.count, .slice a1 d.data.length c1, .slice a2 d.waits.length c2]) d) : tBytes.rep P w (.slice a1 d.data.length c1) d.data := by
  obtain ⟨u, u', e, hd, _⟩ := tDisk.val h
  simp at e
  rw [e.1]
  exact hd
theorem settle_no (d : Disk) : settleD d (fun i => ([] : List Bool).getD i false) = ⟨d.count, d.data, []⟩ := by
  unfold settleD
  rw [settled_no]
end disk
theorem DiskPieces_fn {w : World} {v vl : Value} {d : Disk} {l : List disk.Act} {at_ : Int} (h : tDisk.rep All w v d) (hl : (Sl tAct).rep All w vl l) : Fn Try.prog 8 [v, vl, i64 at_] w (fun r w2 => r = .bool true ∧ Ext (fun _ => False) w w2) := by
  have R3 := tDisk.mono h (P' := fun k => k < w.heap.size) (fun k _ h => h)
  obtain ⟨u1, q1, u2, q2, rfl⟩ := tDisk.shape h
  have hlb := (Sl tAct).mono hl (P' := fun k => k < w.heap.size) (fun k _ h => h)
  obtain ⟨al, capl, rfl, hcapl⟩ := Sl.val hl
  refine Fn.enter (fun w => Try.call8 _ w) Try.func8 rfl ?_
  refine .seq (.region ?_)
  refine .v rfl rfl (.box rfl) ?_
  rintro _ w3 ⟨rfl, N3⟩
  have X3 := N3.ext
  have z3 : w3.heap.size = w.heap.size + 1 := N3.size
  have B3 := N3.blk
  refine .p rfl rfl (.as rfl) ?_
  refine .nil (.code (.seq (.keep [(3, _), (1, _), (2, _)] ⟨rfl, rfl, rfl, trivial⟩ (.region ?_))))
  refine .call (first := []) (captured := []) rfl rfl rfl rfl (alive_fn) ?_
  rintro _ w14 ⟨rfl, X14⟩
  have z14 := X14.size
  refine .p rfl rfl (.as rfl) ?_
  refine .nil (.code (.seq (.seq (.keep [(7, _), (3, _), (1, _), (2, _)] ⟨rfl, rfl, rfl, rfl, trivial⟩ (.region ?_)))))
  refine .p rfl rfl (.mv rfl) ?_
  refine .p rfl rfl (.not rfl) ?_
  refine .nil (.code (.keep [(16, _), (7, _), (3, _), (1, _), (2, _)] ⟨rfl, rfl, rfl, rfl, rfl, trivial⟩ (.condF rfl (.skip (.code (.seq (.seq (.keep [(7, _), (3, _), (1, _), (2, _)] ⟨rfl, rfl, rfl, rfl, trivial⟩ (.region ?_)))))))))
  refine .p rfl rfl (.loadA (n := 3) rfl rfl rfl rfl rfl (B3.ext (S := fun _ => False) (by repeat (first | exact Ext.refl _ | assumption | refine Ext.trans (by assumption) ?_)) (fun x => x)).cells) ?_
  refine .call (first := []) (captured := []) rfl rfl rfl rfl (large_fn (tDisk.ext0 h (by repeat (first | exact Ext.refl _ | assumption | refine Ext.trans (by assumption) ?_)))) ?_
  rintro _ w18 ⟨rfl, X18⟩
  have z18 := X18.size
  refine .p rfl rfl (.mv rfl) ?_
  refine .case 19 rfl (fun c19 => ?_) (fun c19 => ?_)
  · refine .skip rfl rfl ?_
    refine .skip rfl rfl ?_
    refine .skip rfl rfl ?_
    refine .p rfl rfl (.pickT rfl rfl) ?_
    refine .p rfl rfl (.mv rfl) ?_
    refine .skip rfl rfl ?_
    refine .skip rfl rfl ?_
    refine .p rfl rfl (.pickT rfl rfl) ?_
    refine .p rfl rfl (.mv rfl) ?_
    refine .skip rfl rfl ?_
    refine .skip rfl rfl ?_
    refine .skip rfl rfl ?_
    refine .skip rfl rfl ?_
    refine .p rfl rfl (.pickT rfl rfl) ?_
    refine .nil (.code (.keep [(33, _), (7, _), (3, _), (1, _), (2, _)] ⟨rfl, rfl, rfl, rfl, rfl, trivial⟩ (.condT rfl (.seq (.keep [(7, _)] ⟨rfl, trivial⟩ (.region ?_))))))
    refine .p rfl rfl (.mv rfl) ?_
    refine .p rfl rfl (.as rfl) ?_
    refine .nil (.code ?_)
    refine .ret _ rfl ?_
    exact ⟨rfl, (by repeat (first | exact Ext.refl _ | assumption | refine Ext.trans (by assumption) ?_))⟩
  · refine .p rfl rfl (.mv rfl) ?_
    refine .p rfl rfl (.len rfl rfl) ?_
    refine .p rfl rfl (.gt rfl rfl) ?_
    refine .p rfl rfl (.pickF rfl rfl) ?_
    refine .p rfl rfl (.mv rfl) ?_
    refine .caseD 24 rfl (fun c24 => ?_) (fun c24 => ?_)
    · refine .skip rfl rfl ?_
      refine .skip rfl rfl ?_
      refine .p rfl rfl (.pickT rfl rfl) ?_
      refine .p rfl rfl (.mv rfl) ?_
      refine .skip rfl rfl ?_
      refine .skip rfl rfl ?_
      refine .skip rfl rfl ?_
      refine .skip rfl rfl ?_
      refine .p rfl rfl (.pickT rfl rfl) ?_
      refine .nil (.code (.keep [(33, _), (7, _), (3, _), (1, _), (2, _)] ⟨rfl, rfl, rfl, rfl, rfl, trivial⟩ (.condT rfl (.seq (.keep [(7, _)] ⟨rfl, trivial⟩ (.region ?_))))))
      refine .p rfl rfl (.mv rfl) ?_
      refine .p rfl rfl (.as rfl) ?_
      refine .nil (.code ?_)
      refine .ret _ rfl ?_
      exact ⟨rfl, (by repeat (first | exact Ext.refl _ | assumption | refine Ext.trans (by assumption) ?_))⟩
    · refine .p rfl rfl (.mv rfl) ?_
      refine .p rfl rfl (.lt rfl rfl) ?_
      refine .p rfl rfl (.pickF rfl rfl) ?_
      refine .p rfl rfl (.mv rfl) ?_
      refine .caseD 28 rfl (fun c28 => ?_) (fun c28 => ?_)
      · refine .skip rfl rfl ?_
        refine .skip rfl rfl ?_
        refine .skip rfl rfl ?_
        refine .skip rfl rfl ?_
        refine .p rfl rfl (.pickT rfl rfl) ?_
        refine .nil (.code (.keep [(33, _), (7, _), (3, _), (1, _), (2, _)] ⟨rfl, rfl, rfl, rfl, rfl, trivial⟩ (.condT rfl (.seq (.keep [(7, _)] ⟨rfl, trivial⟩ (.region ?_))))))
        refine .p rfl rfl (.mv rfl) ?_
        refine .p rfl rfl (.as rfl) ?_
        refine .nil (.code ?_)
        refine .ret _ rfl ?_
        exact ⟨rfl, (by repeat (first | exact Ext.refl _ | assumption | refine Ext.trans (by assumption) ?_))⟩
      · refine .p rfl rfl (.mv rfl) ?_
        refine .p rfl rfl (.mv rfl) ?_
        refine .p rfl rfl (.len rfl rfl) ?_
        refine .p rfl rfl (.gt rfl rfl) ?_
        refine .p rfl rfl (.pickF rfl rfl) ?_
        refine .nil (.code (.keep [(33, _), (7, _), (3, _), (1, _), (2, _)] ⟨rfl, rfl, rfl, rfl, rfl, trivial⟩ ?_))
        refine .condD rfl (fun c33 => ?_) (fun c33 => ?_)
        · refine .seq (.keep [(7, _)] ⟨rfl, trivial⟩ (.region ?_))
          refine .p rfl rfl (.mv rfl) ?_
          refine .p rfl rfl (.as rfl) ?_
          refine .nil (.code ?_)
          refine .ret _ rfl ?_
          exact ⟨rfl, (by repeat (first | exact Ext.refl _ | assumption | refine Ext.trans (by assumption) ?_))⟩
        · obtain ⟨a45, c45, hv45, hc45, R45⟩ := Sl.cutE hlb 0 at_.toNat (by omega) (by omega)
          obtain ⟨a61, c61, hv61, hc61, R61⟩ := Sl.cutE hlb at_.toNat l.length (by omega) (by omega)
          rw [List.take_length] at R61
          simp only [Nat.sub_zero] at hv45 R45
          refine .skip (.code (.seq (.keep [(7, _), (3, _), (1, _), (2, _)] ⟨rfl, rfl, rfl, rfl, trivial⟩ (.region ?_))))
          refine .p rfl rfl (.loadA (n := 3) rfl rfl rfl rfl rfl (B3.ext (S := fun _ => False) (by repeat (first | exact Ext.refl _ | assumption | refine Ext.trans (by assumption) ?_)) (fun x => x)).cells) ?_
          refine .p rfl rfl (.mv rfl) ?_
          refine .call (first := []) (captured := []) rfl rfl rfl rfl (DoE_fn (tDisk.ext0 h (by repeat (first | exact Ext.refl _ | assumption | refine Ext.trans (by assumption) ?_))) ((Sl tAct).ext0 hl (by repeat (first | exact Ext.refl _ | assumption | refine Ext.trans (by assumption) ?_)))) ?_
          rintro _ w38 ⟨v38, x38, e38, hx38, rfl, R38, X38⟩
          have z38 := X38.size
          obtain ⟨f38, g38, p38, q38, rfl⟩ := tDisk.shape R38
          refine .p rfl rfl (.mv rfl) ?_
          refine .p rfl rfl (.extract rfl rfl) ?_
          refine .p rfl rfl (.extract rfl rfl) ?_
          refine .v rfl rfl (.alloc rfl rfl) ?_
          rintro _ wn8 ⟨rfl, N8⟩
          refine .s rfl (.storeAll (n := 3) rfl rfl rfl rfl rfl N8.blk rfl) ?_
          intro w6 P8
          have X8 := N8.ext.then P8.ext (by rintro k rfl _; exact Nat.le_refl _)
          have z8 := X8.size
          have B8 := P8.blk
          have l8 := B8.lt
          clear N8 P8
          refine .p rfl rfl (.as rfl) ?_
          refine .nil (.code (.seq (.keep [(9, _), (8, _), (7, _), (3, _), (1, _), (2, _)] ⟨rfl, rfl, rfl, rfl, rfl, rfl, trivial⟩ ?_)))
          have B3w := B3.ext (S := fun _ => False) (w' := w6) (by repeat (first | exact Ext.refl _ | assumption | refine Ext.trans (by assumption) ?_)) (fun x => x)
          refine .meet (S := Nat × Disk × Int × (Option Addr × Nat × Option Addr × Nat) × World) (fun s => [(1, .slice al l.length capl), (2, i64 at_), (3, .pointer (some ⟨w.heap.size, 0, none⟩)), (7, .bool true), (8, .pointer (some ⟨w38.heap.size, 0, none⟩)), (9, i64 e38), (10, .pointer (some ⟨s.1, 0, none⟩)), (11, i64 s.2.2.1)]) (fun s => s.2.2.2.2) (fun s => Blk s.2.2.2.2 s.1 25 [i64 s.2.1.count, .slice s.2.2.2.1.1 s.2.1.data.length s.2.2.2.1.2.1, .slice s.2.2.2.1.2.2.1 s.2.1.waits.length s.2.2.2.1.2.2.2] ∧ tDisk.rep All s.2.2.2.2 (.agg #[i64 s.2.1.count, .slice s.2.2.2.1.1 s.2.1.data.length s.2.2.2.1.2.1, .slice s.2.2.2.1.2.2.1 s.2.1.waits.length s.2.2.2.1.2.2.2]) s.2.1 ∧ Ext (fun _ => False) w6 s.2.2.2.2 ∧ doF d ((l.take at_.toNat).drop 0) = (s.2.1, s.2.2.1) ∧ s.1 < s.2.2.2.2.heap.size) ?_ ?_
          · rintro ⟨p, y, f, ⟨f1, g1, h1, i1⟩, wm⟩ ⟨Bm, Rm, Xm, hyf, hpl⟩
            simp only at Bm Rm Xm hyf hpl
            have zwm : w6.heap.size ≤ wm.heap.size := Xm.size
            change A _ [(1, .slice al l.length capl), (2, i64 at_), (3, .pointer (some ⟨w.heap.size, 0, none⟩)), (7, .bool true), (8, .pointer (some ⟨w38.heap.size, 0, none⟩)), (9, i64 e38), (10, .pointer (some ⟨p, 0, none⟩)), (11, i64 f)] _ wm
            refine .code (.seq (.seq (.keep [(1, _), (2, _), (7, _), (8, _), (9, _), (10, _), (11, _)] ⟨rfl, rfl, rfl, rfl, rfl, rfl, rfl, trivial⟩ (.region ?_))))
            refine .p rfl rfl (.mv rfl) ?_
            refine .p rfl rfl (.ne rfl rfl) ?_
            refine .nil (.code (.keep [(50, _), (1, _), (2, _), (7, _), (8, _), (9, _), (10, _), (11, _)] ⟨rfl, rfl, rfl, rfl, rfl, rfl, rfl, rfl, trivial⟩ ?_))
            refine .condD rfl (fun c50 => ?_) (fun c50 => ?_)
            · refine .seq (.keep [(7, _), (9, _), (11, _)] ⟨rfl, rfl, rfl, trivial⟩ (.region ?_))
              refine .p rfl rfl (.mv rfl) ?_
              refine .p rfl rfl (.mv rfl) ?_
              refine .p rfl rfl (.mv rfl) ?_
              refine .p rfl rfl (.mv rfl) ?_
              refine .p rfl rfl (.yes (.eq rfl rfl) (by have := doF_first_bad (m := l.drop at_.toNat) hyf c50; rw [List.drop_zero, List.take_append_drop] at this; exact (Prod.mk.inj (hx38.symm.trans this)).2)) ?_
              refine .p rfl rfl (.pickT rfl rfl) ?_
              refine .p rfl rfl (.as rfl) ?_
              refine .nil (.code ?_)
              refine .ret _ rfl ?_
              exact ⟨rfl, (by repeat (first | exact Ext.refl _ | assumption | refine Ext.trans (by assumption) ?_))⟩
            · refine .skip (.code (.seq (.keep [(1, _), (2, _), (7, _), (8, _), (9, _), (10, _)] ⟨rfl, rfl, rfl, rfl, rfl, rfl, trivial⟩ ?_)))
              have hf0 : f = 0 := Decidable.not_not.1 c50
              subst hf0
              have Rm' := tDisk.mono Rm (P' := fun k => k < wm.heap.size) (fun k _ h => h)
              refine .meet (S := Nat × Disk × Int × (Option Addr × Nat × Option Addr × Nat) × World) (fun s => [(7, .bool true), (8, .pointer (some ⟨w38.heap.size, 0, none⟩)), (9, i64 e38), (12, .pointer (some ⟨s.1, 0, none⟩)), (13, i64 s.2.2.1)]) (fun s => s.2.2.2.2) (fun s => Blk s.2.2.2.2 s.1 25 [i64 s.2.1.count, .slice s.2.2.2.1.1 s.2.1.data.length s.2.2.2.1.2.1, .slice s.2.2.2.1.2.2.1 s.2.1.waits.length s.2.2.2.1.2.2.2] ∧ tDisk.rep All s.2.2.2.2 (.agg #[i64 s.2.1.count, .slice s.2.2.2.1.1 s.2.1.data.length s.2.2.2.1.2.1, .slice s.2.2.2.1.2.2.1 s.2.1.waits.length s.2.2.2.1.2.2.2]) s.2.1 ∧ Ext (fun _ => False) wm s.2.2.2.2 ∧ doF y (l.drop at_.toNat) = (s.2.1, s.2.2.1) ∧ s.1 < s.2.2.2.2.heap.size) ?_ ?_
              · rintro ⟨p2, z, g, ⟨f2, g2, h2, i2⟩, wn⟩ ⟨Bn, Rn, Xn, hzg, hpl2⟩
                simp only at Bn Rn Xn hzg hpl2
                have zwn : wm.heap.size ≤ wn.heap.size := Xn.size
                have hxz : (x38, e38) = (z, g) := by
                  have := doF_first_ok (m := l.drop at_.toNat) hyf
                  rw [List.drop_zero, List.take_append_drop] at this
                  exact hx38.symm.trans (this.trans hzg)
                change A _ [(7, .bool true), (8, .pointer (some ⟨w38.heap.size, 0, none⟩)), (9, i64 e38), (12, .pointer (some ⟨p2, 0, none⟩)), (13, i64 g)] _ wn
                refine .code (.seq (.region ?_))
                refine .p rfl rfl (.mv rfl) ?_
                refine .p rfl rfl (.mv rfl) ?_
                refine .p rfl rfl (.mv rfl) ?_
                refine .p rfl rfl (.mv rfl) ?_
                refine .p rfl rfl (.yes (.eq rfl rfl) ((Prod.mk.inj hxz).2)) ?_
                refine .p rfl rfl (.pickT rfl rfl) ?_
                refine .p rfl rfl (.mv rfl) ?_
                refine .p rfl rfl (.loadA (n := 3) rfl rfl rfl rfl rfl (B8.ext (S := fun _ => False) (by repeat (first | exact Ext.refl _ | assumption | refine Ext.trans (by assumption) ?_)) (fun x => x)).cells) ?_
                refine .p rfl rfl (.loadA (n := 3) rfl rfl rfl rfl rfl Bn.cells) ?_
                refine .call (first := []) (captured := []) rfl rfl rfl rfl (SameT_fn (a := z) (by rw [← (Prod.mk.inj hxz).1]; exact allOf (tDisk.ext0 R38 (by repeat (first | exact Ext.refl _ | assumption | refine Ext.trans (by assumption) ?_)))) Rn) ?_
                rintro _ w74 ⟨rfl, X74⟩
                refine .p rfl rfl (.pickT rfl rfl) ?_
                refine .p rfl rfl (.as rfl) ?_
                refine .nil (.code ?_)
                refine .ret _ rfl ?_
                exact ⟨rfl, (by repeat (first | exact Ext.refl _ | assumption | refine Ext.trans (by assumption) ?_))⟩
              · intro meet
                refine .tree (fun k => wm.heap.size ≤ k) [4, 8, 9] (.op 0 (.op 1 (.op 2 (.op 3 (.alt 4 (.op 4 (.op 5 (.op 6 (.op 7 (.alt 8 (.op 8 (.alt 9 (.op 9 (.op 10 (.nil))) (.stop))) (.stop)))))) (.alt 8 (.op 8 (.alt 4 (.op 4 (.op 5 (.op 6 (.op 7 (.alt 9 (.op 9 (.op 10 (.nil))) (.stop)))))) (.stop))) (.stop))))))) (by kernel_rfl) (by kernel_rfl) (by kernel_rfl) ?_
                refine .p rfl rfl rfl rfl (fun wx hx => .loadA (n := 3) rfl rfl rfl rfl rfl (Bm.ext hx (by show ¬ (wm.heap.size ≤ _); omega)).cells) ?_
                refine .p rfl rfl rfl rfl (fun wx hx => .mv rfl) ?_
                refine .p rfl rfl rfl rfl (fun wx hx => .mv rfl) ?_
                refine .p rfl rfl rfl rfl (fun wx hx => .cast (.cutLo (s := 3) rfl rfl rfl rfl (by omega)) hv61) ?_
                refine .alt ?_ ?_
                · refine .call (first := []) (captured := []) rfl rfl rfl rfl rfl rfl (DoE_fn (d := y) (l := l.drop at_.toNat) (allOf (tDisk.ext Rm' (Ext.refl _) (by intro k hk _ he; have he : wm.heap.size ≤ k := he; omega))) (allOf ((Sl tAct).ext ((Sl tAct).ext0 R61 (by repeat (first | exact Ext.refl _ | assumption | refine Ext.trans (by assumption) ?_))) (Ext.refl _) (by intro k hk _ he; have he : wm.heap.size ≤ k := he; omega)))) (by rintro _ _ ⟨_, _, _, _, _, _, hx⟩; exact (Ext.refl _).trans (hx.mono (fun _ _ h => h.elim))) ?_
                  rintro _ w62 ⟨v62, x62, e62, hx62, rfl, R62, X62⟩
                  have z62 := X62.size
                  obtain ⟨f62, g62, p62, q62, rfl⟩ := tDisk.shape R62
                  have hX62 : Ext (fun k => wm.heap.size ≤ k) _ _ := (Ext.refl _).trans (X62.mono (fun _ _ h => h.elim))
                  refine .p rfl rfl rfl rfl (fun wx hx => .mv rfl) ?_
                  refine .p rfl rfl rfl rfl (fun wx hx => .extract rfl rfl) ?_
                  refine .p rfl rfl rfl rfl (fun wx hx => .extract rfl rfl) ?_
                  refine .alt ?_ ?_
                  · refine .v rfl rfl rfl rfl (.alloc rfl rfl) (by rintro _ _ ⟨_, hN⟩; exact hX62.trans hN.ext0) ?_
                    rintro _ wa12 ⟨rfl, N12⟩
                    have z12 := N12.size
                    have hX12 : Ext (fun k => wm.heap.size ≤ k) _ _ := hX62.trans (N12.ext0)
                    refine .alt ?_ ?_
                    · refine .s rfl rfl rfl (.storeAll (n := 3) (E := 25) (cs := [i64 0, .slice none 0 0, .slice none 0 0]) rfl rfl rfl rfl rfl (by first | exact N12.blk | exact N12.blk.ext X62 (fun x => x)) rfl) (by intro wz hP; exact hX12.trans (hP.ext.mono (by rintro k _ rfl; show wm.heap.size ≤ _; omega))) ?_
                      intro wb12 P12
                      have hXs9 : Ext (fun k => wm.heap.size ≤ k) _ _ := hX12.trans (P12.ext.mono (by rintro k _ rfl; show wm.heap.size ≤ _; omega))
                      refine .p rfl rfl rfl rfl (fun wx hx => .as rfl) ?_
                      refine .nil ?_
                      have zb := P12.size
                      exact (meet (w62.heap.size, x62, e62, (f62, g62, p62, q62), wb12) ⟨P12.blk, allOf (tDisk.ext (tDisk.ext0 R62 N12.ext) P12.ext (fun k hk _ he => by have he : k = w62.heap.size := he; omega)), (Ext.refl wm).then hXs9 (fun k hk _ => hk), hx62, by show w62.heap.size < wb12.heap.size; omega⟩).of ⟨rfl, rfl, rfl, rfl, rfl, trivial⟩
                    exact .stop
                  exact .stop
                refine .alt ?_ ?_
                · refine .v rfl rfl rfl rfl (.alloc rfl rfl) (by rintro _ _ ⟨_, hN⟩; exact (Ext.refl _).trans hN.ext0) ?_
                  rintro _ wa12 ⟨rfl, N12⟩
                  have z12 := N12.size
                  have hX12 : Ext (fun k => wm.heap.size ≤ k) _ _ := (Ext.refl _).trans (N12.ext0)
                  refine .alt ?_ ?_
                  · refine .call (first := []) (captured := []) rfl rfl rfl rfl rfl rfl (DoE_fn (d := y) (l := l.drop at_.toNat) (allOf (tDisk.ext Rm' hX12 (by intro k hk _ he; have he : wm.heap.size ≤ k := he; omega))) (allOf ((Sl tAct).ext ((Sl tAct).ext0 R61 (by repeat (first | exact Ext.refl _ | assumption | refine Ext.trans (by assumption) ?_))) hX12 (by intro k hk _ he; have he : wm.heap.size ≤ k := he; omega)))) (by rintro _ _ ⟨_, _, _, _, _, _, hx⟩; exact hX12.trans (hx.mono (fun _ _ h => h.elim))) ?_
                    rintro _ w62 ⟨v62, x62, e62, hx62, rfl, R62, X62⟩
                    have z62 := X62.size
                    obtain ⟨f62, g62, p62, q62, rfl⟩ := tDisk.shape R62
                    have hX62 : Ext (fun k => wm.heap.size ≤ k) _ _ := hX12.trans (X62.mono (fun _ _ h => h.elim))
                    refine .p rfl rfl rfl rfl (fun wx hx => .mv rfl) ?_
                    refine .p rfl rfl rfl rfl (fun wx hx => .extract rfl rfl) ?_
                    refine .p rfl rfl rfl rfl (fun wx hx => .extract rfl rfl) ?_
                    refine .alt ?_ ?_
                    · refine .s rfl rfl rfl (.storeAll (n := 3) (E := 25) (cs := [i64 0, .slice none 0 0, .slice none 0 0]) rfl rfl rfl rfl rfl (by first | exact N12.blk | exact N12.blk.ext X62 (fun x => x)) rfl) (by intro wz hP; exact hX62.trans (hP.ext.mono (by rintro k _ rfl; show wm.heap.size ≤ _; omega))) ?_
                      intro wb12 P12
                      have hXs9 : Ext (fun k => wm.heap.size ≤ k) _ _ := hX62.trans (P12.ext.mono (by rintro k _ rfl; show wm.heap.size ≤ _; omega))
                      refine .p rfl rfl rfl rfl (fun wx hx => .as rfl) ?_
                      refine .nil ?_
                      have zb := P12.size
                      exact (meet (wm.heap.size, x62, e62, (f62, g62, p62, q62), wb12) ⟨P12.blk, allOf (tDisk.ext (R62) P12.ext (fun k hk _ he => by have he : k = wm.heap.size := he; omega)), (Ext.refl wm).then hXs9 (fun k hk _ => hk), hx62, by show wm.heap.size < wb12.heap.size; omega⟩).of ⟨rfl, rfl, rfl, rfl, rfl, trivial⟩
                    exact .stop
                  exact .stop
                exact .stop
          · intro meet
            refine .tree (fun k => w6.heap.size ≤ k) [4, 8, 9] (.op 0 (.op 1 (.op 2 (.op 3 (.alt 4 (.op 4 (.op 5 (.op 6 (.op 7 (.alt 8 (.op 8 (.alt 9 (.op 9 (.op 10 (.nil))) (.stop))) (.stop)))))) (.alt 8 (.op 8 (.alt 4 (.op 4 (.op 5 (.op 6 (.op 7 (.alt 9 (.op 9 (.op 10 (.nil))) (.stop)))))) (.stop))) (.stop))))))) (by kernel_rfl) (by kernel_rfl) (by kernel_rfl) ?_
            refine .p rfl rfl rfl rfl (fun wx hx => .loadA (n := 3) rfl rfl rfl rfl rfl (B3w.ext hx (by show ¬ (w6.heap.size ≤ _); omega)).cells) ?_
            refine .p rfl rfl rfl rfl (fun wx hx => .mv rfl) ?_
            refine .p rfl rfl rfl rfl (fun wx hx => .mv rfl) ?_
            refine .p rfl rfl rfl rfl (fun wx hx => .cast (.cutHi (s := 3) rfl rfl rfl rfl (by omega)) hv45) ?_
            refine .alt ?_ ?_
            · refine .call (first := []) (captured := []) rfl rfl rfl rfl rfl rfl (DoE_fn (d := d) (l := (l.take at_.toNat).drop 0) (allOf (tDisk.ext (tDisk.ext0 R3 (by repeat (first | exact Ext.refl _ | assumption | refine Ext.trans (by assumption) ?_))) (Ext.refl _) (by intro k hk _ he; have he : w6.heap.size ≤ k := he; omega))) (allOf ((Sl tAct).ext ((Sl tAct).ext0 R45 (by repeat (first | exact Ext.refl _ | assumption | refine Ext.trans (by assumption) ?_))) (Ext.refl _) (by intro k hk _ he; have he : w6.heap.size ≤ k := he; omega)))) (by rintro _ _ ⟨_, _, _, _, _, _, hx⟩; exact (Ext.refl _).trans (hx.mono (fun _ _ h => h.elim))) ?_
              rintro _ w46 ⟨v46, x46, e46, hx46, rfl, R46, X46⟩
              have z46 := X46.size
              obtain ⟨f46, g46, p46, q46, rfl⟩ := tDisk.shape R46
              have hX46 : Ext (fun k => w6.heap.size ≤ k) _ _ := (Ext.refl _).trans (X46.mono (fun _ _ h => h.elim))
              refine .p rfl rfl rfl rfl (fun wx hx => .mv rfl) ?_
              refine .p rfl rfl rfl rfl (fun wx hx => .extract rfl rfl) ?_
              refine .p rfl rfl rfl rfl (fun wx hx => .extract rfl rfl) ?_
              refine .alt ?_ ?_
              · refine .v rfl rfl rfl rfl (.alloc rfl rfl) (by rintro _ _ ⟨_, hN⟩; exact hX46.trans hN.ext0) ?_
                rintro _ wa10 ⟨rfl, N10⟩
                have z10 := N10.size
                have hX10 : Ext (fun k => w6.heap.size ≤ k) _ _ := hX46.trans (N10.ext0)
                refine .alt ?_ ?_
                · refine .s rfl rfl rfl (.storeAll (n := 3) (E := 25) (cs := [i64 0, .slice none 0 0, .slice none 0 0]) rfl rfl rfl rfl rfl (by first | exact N10.blk | exact N10.blk.ext X46 (fun x => x)) rfl) (by intro wz hP; exact hX10.trans (hP.ext.mono (by rintro k _ rfl; show w6.heap.size ≤ _; omega))) ?_
                  intro wb10 P10
                  have hXs9 : Ext (fun k => w6.heap.size ≤ k) _ _ := hX10.trans (P10.ext.mono (by rintro k _ rfl; show w6.heap.size ≤ _; omega))
                  refine .p rfl rfl rfl rfl (fun wx hx => .as rfl) ?_
                  refine .nil ?_
                  have zb := P10.size
                  exact (meet (w46.heap.size, x46, e46, (f46, g46, p46, q46), wb10) ⟨P10.blk, allOf (tDisk.ext (tDisk.ext0 R46 N10.ext) P10.ext (fun k hk _ he => by have he : k = w46.heap.size := he; omega)), (Ext.refl w6).then hXs9 (fun k hk _ => hk), hx46, by show w46.heap.size < wb10.heap.size; omega⟩).of ⟨rfl, rfl, rfl, rfl, rfl, rfl, rfl, rfl, trivial⟩
                exact .stop
              exact .stop
            refine .alt ?_ ?_
            · refine .v rfl rfl rfl rfl (.alloc rfl rfl) (by rintro _ _ ⟨_, hN⟩; exact (Ext.refl _).trans hN.ext0) ?_
              rintro _ wa10 ⟨rfl, N10⟩
              have z10 := N10.size
              have hX10 : Ext (fun k => w6.heap.size ≤ k) _ _ := (Ext.refl _).trans (N10.ext0)
              refine .alt ?_ ?_
              · refine .call (first := []) (captured := []) rfl rfl rfl rfl rfl rfl (DoE_fn (d := d) (l := (l.take at_.toNat).drop 0) (allOf (tDisk.ext (tDisk.ext0 R3 (by repeat (first | exact Ext.refl _ | assumption | refine Ext.trans (by assumption) ?_))) hX10 (by intro k hk _ he; have he : w6.heap.size ≤ k := he; omega))) (allOf ((Sl tAct).ext ((Sl tAct).ext0 R45 (by repeat (first | exact Ext.refl _ | assumption | refine Ext.trans (by assumption) ?_))) hX10 (by intro k hk _ he; have he : w6.heap.size ≤ k := he; omega)))) (by rintro _ _ ⟨_, _, _, _, _, _, hx⟩; exact hX10.trans (hx.mono (fun _ _ h => h.elim))) ?_
                rintro _ w46 ⟨v46, x46, e46, hx46, rfl, R46, X46⟩
                have z46 := X46.size
                obtain ⟨f46, g46, p46, q46, rfl⟩ := tDisk.shape R46
                have hX46 : Ext (fun k => w6.heap.size ≤ k) _ _ := hX10.trans (X46.mono (fun _ _ h => h.elim))
                refine .p rfl rfl rfl rfl (fun wx hx => .mv rfl) ?_
                refine .p rfl rfl rfl rfl (fun wx hx => .extract rfl rfl) ?_
                refine .p rfl rfl rfl rfl (fun wx hx => .extract rfl rfl) ?_
                refine .alt ?_ ?_
                · refine .s rfl rfl rfl (.storeAll (n := 3) (E := 25) (cs := [i64 0, .slice none 0 0, .slice none 0 0]) rfl rfl rfl rfl rfl (by first | exact N10.blk | exact N10.blk.ext X46 (fun x => x)) rfl) (by intro wz hP; exact hX46.trans (hP.ext.mono (by rintro k _ rfl; show w6.heap.size ≤ _; omega))) ?_
                  intro wb10 P10
                  have hXs9 : Ext (fun k => w6.heap.size ≤ k) _ _ := hX46.trans (P10.ext.mono (by rintro k _ rfl; show w6.heap.size ≤ _; omega))
                  refine .p rfl rfl rfl rfl (fun wx hx => .as rfl) ?_
                  refine .nil ?_
                  have zb := P10.size
                  exact (meet (w6.heap.size, x46, e46, (f46, g46, p46, q46), wb10) ⟨P10.blk, allOf (tDisk.ext (R46) P10.ext (fun k hk _ he => by have he : k = w6.heap.size := he; omega)), (Ext.refl w6).then hXs9 (fun k hk _ => hk), hx46, by show w6.heap.size < wb10.heap.size; omega⟩).of ⟨rfl, rfl, rfl, rfl, rfl, rfl, rfl, rfl, trivial⟩
                exact .stop
              exact .stop
            exact .stop
theorem DiskAll_fn {w : World} {v : Value} {d : Disk} (h : tDisk.rep All w v d) : Fn Try.prog 9 [v] w (fun r w2 => r = .bool true ∧ Ext (fun _ => False) w w2) := by
  obtain ⟨vd, vw, ev, hd, hw, _⟩ := tDisk.val h
  obtain ⟨ad0, cd0, rfl, _⟩ := Sl.val hd
  obtain ⟨aw, capw, rfl, hcapw⟩ := Sl.val hw
  subst ev
  refine Fn.enter (fun w => Try.call9 _ w) Try.func9 rfl ?_
  refine .seq (.region ?_)
  refine .v rfl rfl (.box rfl) ?_
  rintro _ w1 ⟨rfl, N1⟩
  have X1 := N1.ext
  have z1 : w1.heap.size = w.heap.size + 1 := N1.size
  have B1 := N1.blk
  refine .p rfl rfl (.as rfl) ?_
  refine .nil (.code (.seq (.keep [(1, _)] ⟨rfl, trivial⟩ (.region ?_))))
  refine .call (first := []) (captured := []) rfl rfl rfl rfl (alive_fn) ?_
  rintro _ w12 ⟨rfl, X12⟩
  have z12 := X12.size
  refine .p rfl rfl (.as rfl) ?_
  refine .nil (.code (.seq (.seq (.keep [(3, _), (1, _)] ⟨rfl, rfl, trivial⟩ (.region ?_)))))
  refine .p rfl rfl (.mv rfl) ?_
  refine .p rfl rfl (.not rfl) ?_
  refine .nil (.code (.keep [(14, _), (3, _), (1, _)] ⟨rfl, rfl, rfl, trivial⟩ (.condF rfl (.skip (.code (.seq (.seq (.keep [(3, _), (1, _)] ⟨rfl, rfl, trivial⟩ (.region ?_)))))))))
  refine .p rfl rfl (.loadA (n := 3) rfl rfl rfl rfl rfl (B1.ext (S := fun _ => False) (by repeat (first | exact Ext.refl _ | assumption | refine Ext.trans (by assumption) ?_)) (fun x => x)).cells) ?_
  refine .call (first := []) (captured := []) rfl rfl rfl rfl (large_fn (tDisk.ext0 h (by repeat (first | exact Ext.refl _ | assumption | refine Ext.trans (by assumption) ?_)))) ?_
  rintro _ w16 ⟨rfl, X16⟩
  have z16 := X16.size
  refine .p rfl rfl (.mv rfl) ?_
  refine .case 17 rfl (fun c17 => ?_) (fun c17 => ?_)
  · refine .skip rfl rfl ?_
    refine .skip rfl rfl ?_
    refine .skip rfl rfl ?_
    refine .p rfl rfl (.pickT rfl rfl) ?_
    refine .nil (.code (.keep [(21, _), (3, _), (1, _)] ⟨rfl, rfl, rfl, trivial⟩ (.condT rfl (.seq (.keep [(3, _)] ⟨rfl, trivial⟩ (.region ?_))))))
    refine .p rfl rfl (.mv rfl) ?_
    refine .p rfl rfl (.as rfl) ?_
    refine .nil (.code ?_)
    refine .ret _ rfl ?_
    exact ⟨rfl, (by repeat (first | exact Ext.refl _ | assumption | refine Ext.trans (by assumption) ?_))⟩
  · refine .p rfl rfl (.loadA (n := 3) rfl rfl rfl rfl rfl (B1.ext (S := fun _ => False) (by repeat (first | exact Ext.refl _ | assumption | refine Ext.trans (by assumption) ?_)) (fun x => x)).cells) ?_
    refine .call (first := []) (captured := []) rfl rfl rfl rfl (Check_fn (tDisk.ext0 h (by repeat (first | exact Ext.refl _ | assumption | refine Ext.trans (by assumption) ?_)))) ?_
    rintro _ w19 ⟨rfl, X19⟩
    have z19 := X19.size
    refine .p rfl rfl (.ne rfl rfl) ?_
    refine .p rfl rfl (.pickF rfl rfl) ?_
    refine .nil (.code (.keep [(21, _), (3, _), (1, _)] ⟨rfl, rfl, rfl, trivial⟩ ?_))
    refine .condD rfl (fun c21 => ?_) (fun c21 => ?_)
    · refine .seq (.keep [(3, _)] ⟨rfl, trivial⟩ (.region ?_))
      refine .p rfl rfl (.mv rfl) ?_
      refine .p rfl rfl (.as rfl) ?_
      refine .nil (.code ?_)
      refine .ret _ rfl ?_
      exact ⟨rfl, (by repeat (first | exact Ext.refl _ | assumption | refine Ext.trans (by assumption) ?_))⟩
    · have hc : checkF d = 0 := Decidable.not_not.1 c21
      obtain ⟨k1, k2, k3, k4, k5⟩ := check_ok hc
      refine .skip (.code (.seq (.keep [(3, _), (1, _)] ⟨rfl, rfl, trivial⟩ (.region ?_))))
      refine .p rfl rfl (.fieldAddr rfl rfl rfl rfl) ?_
      refine .p rfl rfl (.load rfl rfl rfl ((B1.ext (S := fun _ => False) (by repeat (first | exact Ext.refl _ | assumption | refine Ext.trans (by assumption) ?_)) (fun x => x)).cell 2)) ?_
      refine .p rfl rfl (.len rfl rfl) ?_
      refine .v rfl rfl (.make (eb := 1) rfl rfl rfl rfl rfl rfl rfl rfl (by omega)) ?_
      rintro _ w26 ⟨rfl, N26⟩
      have z26 : w26.heap.size = w19.heap.size + 1 := N26.size
      have X26 := N26.ext
      refine .p rfl rfl (.as rfl) ?_
      refine .nil (.code (.seq (.seq (.keep [(4, _), (3, _), (1, _)] ⟨rfl, rfl, rfl, trivial⟩ (.region ?_)))))
      refine .p rfl rfl (.as rfl) ?_
      refine .nil (.code (.block ?_))
      refine .loop (S := Nat × World) (fun s => [(1, .pointer (some ⟨w.heap.size, 0, none⟩)), (3, .bool true), (4, .slice (some ⟨w19.heap.size, 0, none⟩) d.waits.length d.waits.length), (5, i64 s.1)]) (fun s => s.2) (fun s => s.1 ≤ d.waits.length ∧ Blk s.2 w19.heap.size 4 (List.replicate s.1 (.bool true) ++ List.replicate (d.waits.length - s.1) (.bool false)) ∧ Ext (fun _ => False) w19 s.2) (fun s => d.waits.length - s.1) (0, w26) ⟨rfl, rfl, rfl, rfl, trivial⟩ rfl ⟨Nat.zero_le _, N26.blk, X26⟩ ?_
      rintro ⟨i, wi⟩ J ⟨hi', hBk, hXk⟩ again
      simp only at hi' hBk hXk
      change G _ [(1, .pointer (some ⟨w.heap.size, 0, none⟩)), (3, .bool true), (4, .slice (some ⟨w19.heap.size, 0, none⟩) d.waits.length d.waits.length), (5, i64 i)] _ _ wi
      refine .seq (.seq (.region ?_))
      refine .p rfl rfl (.mv rfl) ?_
      refine .p rfl rfl (.mv rfl) ?_
      refine .p rfl rfl (.len rfl rfl) ?_
      refine .p rfl rfl (.lt rfl rfl) ?_
      refine .nil (.code (.keep [(30, _), (1, _), (3, _), (4, _), (5, _)] ⟨rfl, rfl, rfl, rfl, rfl, trivial⟩ ?_))
      refine .condD rfl (fun c30 => ?_) (fun c30 => ?_)
      · refine .skip (.code (.seq (.block (.keep [(1, _), (3, _), (4, _), (5, _)] ⟨rfl, rfl, rfl, rfl, trivial⟩ (.region ?_)))))
        refine .p rfl rfl (.mv rfl) ?_
        refine .p rfl rfl (.mv rfl) ?_
        refine .p rfl rfl (.cast (.indexAddr1 rfl rfl rfl rfl (by omega)) (show _ = Value.pointer (some ⟨w19.heap.size, i, none⟩) by simp)) ?_
        refine .s rfl (.store rfl rfl rfl rfl rfl hBk (by simp; omega)) ?_
        intro wp Pp
        refine .nil (.blk (.code (.keep [(1, _), (3, _), (4, _), (5, _)] ⟨rfl, rfl, rfl, rfl, trivial⟩ (.region ?_))))
        refine .p rfl rfl (.mv rfl) ?_
        refine .p rfl rfl (.add rfl rfl (by omega)) ?_
        refine .p rfl rfl (.as rfl) ?_
        refine .nil ?_
        refine (again (i + 1, wp) ⟨by show i + 1 ≤ _; omega, ?_, hXk.then Pp.ext (by rintro k rfl _; exact Nat.le_refl _)⟩ (by show _ - (i + 1) < _ - i; omega)).of ⟨rfl, rfl, rfl, rfl, trivial⟩
        have B6 := Pp.blk
        rw [List.set_append_right _ _ (by simp), List.length_replicate, Nat.sub_self, show d.waits.length - i = (d.waits.length - (i + 1)) + 1 by omega, List.replicate_succ, List.set_cons_zero] at B6
        show Blk wp _ _ (List.replicate (i + 1) (.bool true) ++ List.replicate (d.waits.length - (i + 1)) (.bool false))
        rw [List.replicate_succ', List.append_assoc]
        exact B6
      · obtain rfl : i = d.waits.length := by omega
        have Rk : (Sl tBool).rep All wi (.slice (some ⟨w19.heap.size, 0, none⟩) d.waits.length d.waits.length) (List.replicate d.waits.length true) := Sl.mk (us := List.replicate d.waits.length (.bool true)) (each_true _) (by rw [flat_one (by intro u hu; rw [(List.mem_replicate.1 hu).2]; rfl)]; have := hBk.cells; simpa using this) trivial hBk.lt (by simp) (by simp [Lim]; omega) (by simp)
        refine .exit rfl (.code (.seq (.keep [(1, _), (3, _), (4, _)] ⟨rfl, rfl, rfl, trivial⟩ (.region ?_))))
        refine .p rfl rfl (.loadA (n := 3) rfl rfl rfl rfl rfl (B1.ext (S := fun _ => False) (by repeat (first | exact Ext.refl _ | assumption | refine Ext.trans (by assumption) ?_)) (fun x => x)).cells) ?_
        refine .p rfl rfl (.mv rfl) ?_
        refine .call (first := []) (captured := []) rfl rfl rfl rfl (Crash0_fn (ks := List.replicate d.waits.length true) (tDisk.ext0 h (by repeat (first | exact Ext.refl _ | assumption | refine Ext.trans (by assumption) ?_))) ((Sl tBool).ext0 Rk (by repeat (first | exact Ext.refl _ | assumption | refine Ext.trans (by assumption) ?_))) hc) ?_
        rintro _ w39 ⟨v39, rfl, R39, X39⟩
        have z39 := X39.size
        rw [settle_all] at R39
        obtain ⟨f1, g1, p1, q1, rfl⟩ := tDisk.shape R39
        refine .p rfl rfl (.mv rfl) ?_
        refine .p rfl rfl (.extract rfl rfl) ?_
        refine .p rfl rfl (.extract rfl rfl) ?_
        refine .v rfl rfl (.alloc rfl rfl) ?_
        rintro _ wn6 ⟨rfl, N6⟩
        refine .s rfl (.storeAll (n := 3) rfl rfl rfl rfl rfl N6.blk rfl) ?_
        intro w6 P6
        have X6 := N6.ext.then P6.ext (by rintro k rfl _; exact Nat.le_refl _)
        have z6 := X6.size
        have B6 := P6.blk
        have l6 := B6.lt
        clear N6 P6
        refine .p rfl rfl (.as rfl) ?_
        refine .nil (.code (.seq (.keep [(7, _), (6, _), (1, _), (3, _)] ⟨rfl, rfl, rfl, rfl, trivial⟩ (.region ?_))))
        refine .p rfl rfl (.loadA (n := 3) rfl rfl rfl rfl rfl (B1.ext (S := fun _ => False) (by repeat (first | exact Ext.refl _ | assumption | refine Ext.trans (by assumption) ?_)) (fun x => x)).cells) ?_
        refine .call (first := []) (captured := []) rfl rfl rfl rfl (Flush0_fn (tDisk.ext0 h (by repeat (first | exact Ext.refl _ | assumption | refine Ext.trans (by assumption) ?_))) hc) ?_
        rintro _ w44 ⟨v44, rfl, R44, X44⟩
        have z44 := X44.size
        obtain ⟨f2, g2, p2, q2, rfl⟩ := tDisk.shape R44
        refine .p rfl rfl (.mv rfl) ?_
        refine .p rfl rfl (.extract rfl rfl) ?_
        refine .p rfl rfl (.extract rfl rfl) ?_
        refine .v rfl rfl (.alloc rfl rfl) ?_
        rintro _ wn8 ⟨rfl, N8⟩
        refine .s rfl (.storeAll (n := 3) rfl rfl rfl rfl rfl N8.blk rfl) ?_
        intro w8 P8
        have X8 := N8.ext.then P8.ext (by rintro k rfl _; exact Nat.le_refl _)
        have z8 := X8.size
        have B8 := P8.blk
        have l8 := B8.lt
        clear N8 P8
        refine .p rfl rfl (.as rfl) ?_
        refine .nil (.code (.seq (.keep [(9, _), (8, _), (7, _), (6, _), (1, _), (3, _)] ⟨rfl, rfl, rfl, rfl, rfl, rfl, trivial⟩ (.region ?_))))
        refine .p rfl rfl (.loadA (n := 3) rfl rfl rfl rfl rfl (B1.ext (S := fun _ => False) (by repeat (first | exact Ext.refl _ | assumption | refine Ext.trans (by assumption) ?_)) (fun x => x)).cells) ?_
        refine .call (first := []) (captured := []) rfl rfl rfl rfl (Crash0_fn (ks := []) (tDisk.ext0 h (by repeat (first | exact Ext.refl _ | assumption | refine Ext.trans (by assumption) ?_))) Sl.nil hc) ?_
        rintro _ w49 ⟨v49, rfl, R49, X49⟩
        have z49 := X49.size
        rw [settle_no] at R49
        obtain ⟨f3, g3, p3, q3, rfl⟩ := tDisk.shape R49
        refine .p rfl rfl (.mv rfl) ?_
        refine .p rfl rfl (.extract rfl rfl) ?_
        refine .p rfl rfl (.extract rfl rfl) ?_
        refine .v rfl rfl (.alloc rfl rfl) ?_
        rintro _ wn10 ⟨rfl, N10⟩
        refine .s rfl (.storeAll (n := 3) rfl rfl rfl rfl rfl N10.blk rfl) ?_
        intro w10 P10
        have X10 := N10.ext.then P10.ext (by rintro k rfl _; exact Nat.le_refl _)
        have z10 := X10.size
        have B10 := P10.blk
        have l10 := B10.lt
        clear N10 P10
        refine .p rfl rfl (.as rfl) ?_
        refine .nil (.code (.seq (.keep [(11, _), (10, _), (9, _), (8, _), (7, _), (6, _), (1, _), (3, _)] ⟨rfl, rfl, rfl, rfl, rfl, rfl, rfl, rfl, trivial⟩ (.mix (fun _ => False) [16, 30, 35] (by kernel_rfl) (by kernel_rfl) (by kernel_rfl) ?_))))
        refine .p rfl rfl rfl (fun wx hx => .mv rfl) ?_
        refine .p rfl rfl rfl (fun wx hx => .mv rfl) ?_
        refine .p rfl rfl rfl (fun wx hx => .mv rfl) ?_
        refine .p rfl rfl rfl (fun wx hx => .yes (.eq rfl rfl) (rfl)) ?_
        refine .p rfl rfl rfl (fun wx hx => .pickT rfl rfl) ?_
        refine .p rfl rfl rfl (fun wx hx => .mv rfl) ?_
        refine .p rfl rfl rfl (fun wx hx => .mv rfl) ?_
        refine .p rfl rfl rfl (fun wx hx => .yes (.eq rfl rfl) (rfl)) ?_
        refine .p rfl rfl rfl (fun wx hx => .pickT rfl rfl) ?_
        refine .p rfl rfl rfl (fun wx hx => .mv rfl) ?_
        refine .p rfl rfl rfl (fun wx hx => .mv rfl) ?_
        refine .p rfl rfl rfl (fun wx hx => .yes (.eq rfl rfl) (rfl)) ?_
        refine .p rfl rfl rfl (fun wx hx => .pickT rfl rfl) ?_
        refine .p rfl rfl rfl (fun wx hx => .mv rfl) ?_
        refine .p rfl rfl rfl (fun wx hx => .loadA (n := 3) rfl rfl rfl rfl rfl (B6.ext (S := fun _ => False) (Ext.trans (by repeat (first | exact Ext.refl _ | assumption | refine Ext.trans (by assumption) ?_)) hx) (fun x => x)).cells) ?_
        refine .p rfl rfl rfl (fun wx hx => .loadA (n := 3) rfl rfl rfl rfl rfl (B8.ext (S := fun _ => False) (Ext.trans (by repeat (first | exact Ext.refl _ | assumption | refine Ext.trans (by assumption) ?_)) hx) (fun x => x)).cells) ?_
        refine .call (first := []) (captured := []) rfl rfl rfl rfl rfl (SameT_fn (tDisk.ext0 R39 (by repeat (first | exact Ext.refl _ | assumption | refine Ext.trans (by assumption) ?_))) (tDisk.ext0 R44 (by repeat (first | exact Ext.refl _ | assumption | refine Ext.trans (by assumption) ?_)))) (by rintro _ _ ⟨_, hx⟩; exact Ext.trans (by repeat (first | exact Ext.refl _ | assumption | refine Ext.trans (by assumption) ?_)) hx) ?_
        rintro _ w68 ⟨rfl, X68⟩
        have z68 := X68.size
        refine .p rfl rfl rfl (fun wx hx => .pickT rfl rfl) ?_
        refine .p rfl rfl rfl (fun wx hx => .mv rfl) ?_
        refine .p rfl rfl rfl (fun wx hx => .fieldAddr rfl rfl rfl rfl) ?_
        refine .p rfl rfl rfl (fun wx hx => .load rfl rfl rfl ((B10.ext (S := fun _ => False) (Ext.trans (by repeat (first | exact Ext.refl _ | assumption | refine Ext.trans (by assumption) ?_)) hx) (fun x => x)).cell 1)) ?_
        refine .p rfl rfl rfl (fun wx hx => .bytesStr rfl (tBytes.ext0 (tDisk_data R49) (Ext.trans (by repeat (first | exact Ext.refl _ | assumption | refine Ext.trans (by assumption) ?_)) hx)) rfl rfl rfl) ?_
        refine .p rfl rfl rfl (fun wx hx => .fieldAddr rfl rfl rfl rfl) ?_
        refine .p rfl rfl rfl (fun wx hx => .load rfl rfl rfl ((B1.ext (S := fun _ => False) (Ext.trans (by repeat (first | exact Ext.refl _ | assumption | refine Ext.trans (by assumption) ?_)) hx) (fun x => x)).cell 1)) ?_
        refine .p rfl rfl rfl (fun wx hx => .bytesStr rfl (tBytes.ext0 hd (Ext.trans (by repeat (first | exact Ext.refl _ | assumption | refine Ext.trans (by assumption) ?_)) hx)) rfl rfl rfl) ?_
        refine .p rfl rfl rfl (fun wx hx => .yes (.eqS rfl rfl) (rfl)) ?_
        refine .p rfl rfl rfl (fun wx hx => .pickT rfl rfl) ?_
        refine .p rfl rfl rfl (fun wx hx => .mv rfl) ?_
        refine .p rfl rfl rfl (fun wx hx => .loadA (n := 3) rfl rfl rfl rfl rfl (B1.ext (S := fun _ => False) (Ext.trans (by repeat (first | exact Ext.refl _ | assumption | refine Ext.trans (by assumption) ?_)) hx) (fun x => x)).cells) ?_
        refine .p rfl rfl rfl (fun wx hx => .loadA (n := 3) rfl rfl rfl rfl rfl (B1.ext (S := fun _ => False) (Ext.trans (by repeat (first | exact Ext.refl _ | assumption | refine Ext.trans (by assumption) ?_)) hx) (fun x => x)).cells) ?_
        refine .call (first := []) (captured := []) rfl rfl rfl rfl rfl (SameT_fn (tDisk.ext0 h (by repeat (first | exact Ext.refl _ | assumption | refine Ext.trans (by assumption) ?_))) (tDisk.ext0 h (by repeat (first | exact Ext.refl _ | assumption | refine Ext.trans (by assumption) ?_)))) (by rintro _ _ ⟨_, hx⟩; exact Ext.trans (by repeat (first | exact Ext.refl _ | assumption | refine Ext.trans (by assumption) ?_)) hx) ?_
        rintro _ w82 ⟨rfl, X82⟩
        have z82 := X82.size
        refine .p rfl rfl rfl (fun wx hx => .pickT rfl rfl) ?_
        refine .p rfl rfl rfl (fun wx hx => .mv rfl) ?_
        refine .p rfl rfl rfl (fun wx hx => .loadA (n := 3) rfl rfl rfl rfl rfl (B1.ext (S := fun _ => False) (Ext.trans (by repeat (first | exact Ext.refl _ | assumption | refine Ext.trans (by assumption) ?_)) hx) (fun x => x)).cells) ?_
        refine .p rfl rfl rfl (fun wx hx => .loadA (n := 3) rfl rfl rfl rfl rfl (B10.ext (S := fun _ => False) (Ext.trans (by repeat (first | exact Ext.refl _ | assumption | refine Ext.trans (by assumption) ?_)) hx) (fun x => x)).cells) ?_
        refine .call (first := []) (captured := []) rfl rfl rfl rfl rfl (Same_fn (tDisk.ext0 h (by repeat (first | exact Ext.refl _ | assumption | refine Ext.trans (by assumption) ?_))) (tDisk.ext0 R49 (by repeat (first | exact Ext.refl _ | assumption | refine Ext.trans (by assumption) ?_)))) (by rintro _ _ ⟨_, hx⟩; exact Ext.trans (by repeat (first | exact Ext.refl _ | assumption | refine Ext.trans (by assumption) ?_)) hx) ?_
        rintro _ w87 ⟨rfl, X87⟩
        have z87 := X87.size
        refine .p rfl rfl rfl (fun wx hx => .fieldAddr rfl rfl rfl rfl) ?_
        refine .p rfl rfl rfl (fun wx hx => .load rfl rfl rfl ((B1.ext (S := fun _ => False) (Ext.trans (by repeat (first | exact Ext.refl _ | assumption | refine Ext.trans (by assumption) ?_)) hx) (fun x => x)).cell 2)) ?_
        refine .p rfl rfl rfl (fun wx hx => .len rfl rfl) ?_
        refine .p rfl rfl rfl (fun wx hx => .eq rfl rfl) ?_
        refine .p rfl rfl rfl (fun wx hx => .cast (.eqB rfl rfl rfl) (show _ = Value.bool true from congrArg Value.bool (same_none d))) ?_
        refine .p rfl rfl rfl (fun wx hx => .pickT rfl rfl) ?_
        refine .p rfl rfl rfl (fun wx hx => .as rfl) ?_
        refine .nil (.code ?_)
        refine .ret _ rfl ?_
        exact ⟨rfl, (by repeat (first | exact Ext.refl _ | assumption | refine Ext.trans (by assumption) ?_))⟩
end Go.Proofs.Ytfgjpiemnfefmaa
