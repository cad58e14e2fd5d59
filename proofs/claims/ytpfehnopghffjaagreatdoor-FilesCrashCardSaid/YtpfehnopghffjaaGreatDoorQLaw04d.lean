/-
  FilesCrash: wherever the power is lost a disk has all files of before, or all of behind.
-/
import Derived.Test.YtpfehnopghffjaaGreatDoorQ28
set_option linter.unusedVariables false
set_option linter.unusedSimpArgs false
set_option maxRecDepth 20000
namespace Go.Proofs.YtpfehnopghffjaaGreatDoor
open Go
open room files
theorem files.crash_0 {x : Disk} (h : disk.checkF x = 0) (ks : List Bool) : disk.crashF x ks = (disk.settleD x (fun i => ks.getD i false), 0) := by
  unfold disk.crashF
  rw [if_neg (fun k => k h)]
theorem DoFE_fn {w : World} {v vl : Value} {d : Disk} {l : List disk.Act} (h : disk.tDisk.rep All w v d) (hl : (Sl disk.tAct).rep All w vl l) : Fn Tryz.prog 36 [v, vl] w (fun r w2 => ∃ v' x e, disk.doF d l = (x, e) ∧ r = .tuple #[v', i64 e] ∧ disk.tDisk.rep (fun k => w.heap.size ≤ k ∧ k < w2.heap.size) w2 v' x ∧ Ext (fun _ => False) w w2) :=
  (Do_fn h hl).mono fun r w2 ⟨v, h1, h2, h3⟩ => ⟨v, _, _, rfl, h1, disk.tDisk.mono h2.rep (fun k h1 h => ⟨h1, h⟩), h3⟩
theorem files.map2_nil (d : Disk) : map2F d [] = viewF d := rfl
attribute [local irreducible] files.getF files.namesF map2F turnF disk.settleD disk.doF disk.crashF
theorem FilesCrash_fn {w : World} {v vl vk : Value} {d : Disk} {l : List Change} {n : Int} {ks : List Bool} (h : disk.tDisk.rep All w v d) (hl : (Sl tree.tChange).rep All w vl l) (hk : (Sl tBool).rep All w vk ks) (hg : GOK w) : Fn Tryz.prog 10 [v, vl, i64 n, vk] w (fun r w2 => r = .bool true ∧ Ext (fun _ => False) w w2) := by
  have R3 := disk.tDisk.mono h (P' := fun k => k < w.heap.size) (fun k _ h => h)
  obtain ⟨u1, q1, u2, q2, rfl⟩ := diskShape h
  have hkb := (Sl tBool).mono hk (P' := fun k => k < w.heap.size) (fun k _ h => h)
  obtain ⟨ak, capk, rfl, hcapk⟩ := Sl.val hk
  obtain ⟨al, kl, rfl, _⟩ := Sl.val hl
  refine Fn.enter (fun w => Tryz.call10 _ w) Tryz.func10 rfl ?_
  refine .seq (.region ?_)
  refine .v rfl rfl (.box rfl) ?_
  rintro _ w4 ⟨rfl, N4⟩
  have B4 := N4.blk
  have X4 := N4.ext
  have z4 := N4.size
  refine .p rfl rfl (.as rfl) ?_
  refine .nil (.code (.seq (.keep [(4, _), (1, _), (2, _), (3, _)] ⟨rfl, rfl, rfl, rfl, trivial⟩ (.region ?_))))
  refine .call (first := []) (captured := []) rfl rfl rfl rfl (filesAlive_fn (hg.ext0 (by repeat (first | exact Ext.refl _ | assumption | refine Ext.trans (by assumption) ?_)))) ?_
  rintro _ w16 ⟨rfl, X16⟩
  have z16 := X16.size
  refine .p rfl rfl (.as rfl) ?_
  refine .nil (.code (.seq (.seq (.keep [(9, _), (4, _), (1, _), (2, _), (3, _)] ⟨rfl, rfl, rfl, rfl, rfl, trivial⟩ (.region ?_)))))
  refine .p rfl rfl (.mv rfl) ?_
  refine .p rfl rfl (.not rfl) ?_
  refine .nil (.code (.keep [(18, _), (9, _), (4, _), (1, _), (2, _), (3, _)] ⟨rfl, rfl, rfl, rfl, rfl, rfl, trivial⟩ (.condF rfl (.skip (.code (.seq (.seq (.keep [(9, _), (4, _), (1, _), (2, _), (3, _)] ⟨rfl, rfl, rfl, rfl, rfl, trivial⟩ (.region ?_)))))))))
  refine .p rfl rfl (.loadA (n := 3) rfl rfl rfl rfl rfl (B4.ext (S := fun _ => False) (by repeat (first | exact Ext.refl _ | assumption | refine Ext.trans (by assumption) ?_)) (fun x => x)).cells) ?_
  refine .call (first := []) (captured := []) rfl rfl rfl rfl (filesLarge_fn (allOf (disk.tDisk.ext0 R3 (by repeat (first | exact Ext.refl _ | assumption | refine Ext.trans (by assumption) ?_))))) ?_
  rintro _ w20 ⟨rfl, X20⟩
  have z20 := X20.size
  refine .p rfl rfl (.mv rfl) ?_
  refine .case 21 rfl (fun c21 => ?_) (fun c21 => ?_)
  · refine .skip rfl rfl ?_
    refine .skip rfl rfl ?_
    refine .p rfl rfl (.pickT rfl rfl) ?_
    refine .p rfl rfl (.mv rfl) ?_
    refine .skip rfl rfl ?_
    refine .skip rfl rfl ?_
    refine .skip rfl rfl ?_
    refine .skip rfl rfl ?_
    refine .p rfl rfl (.pickT rfl rfl) ?_
    refine .p rfl rfl (.mv rfl) ?_
    refine .skip rfl rfl ?_
    refine .skip rfl rfl ?_
    refine .skip rfl rfl ?_
    refine .p rfl rfl (.pickT rfl rfl) ?_
    refine .nil (.code (.keep [(35, _), (9, _), (4, _), (1, _), (2, _), (3, _)] ⟨rfl, rfl, rfl, rfl, rfl, rfl, trivial⟩ (.condT rfl (.seq (.keep [(9, _)] ⟨rfl, trivial⟩ (.region ?_))))))
    refine .p rfl rfl (.mv rfl) ?_
    refine .p rfl rfl (.as rfl) ?_
    refine .nil (.code ?_)
    refine .ret _ rfl ?_
    first
      | exact ⟨rfl, (by repeat (first | exact Ext.refl _ | assumption | refine Ext.trans (by assumption) ?_))⟩
      | (refine ⟨?_, (by repeat (first | exact Ext.refl _ | assumption | refine Ext.trans (by assumption) ?_))⟩
         rcases p5 with hh | ⟨hlt, hh⟩
         · have := hb79 hh
           simp_all
         · first
             | (rw [← map2_nil] at hh
                rw [hb88 hh]
                rfl)
             | (exfalso; omega))
  · refine .p rfl rfl (.mv rfl) ?_
    refine .call (first := []) (captured := []) rfl rfl rfl rfl (heavy_fn ((Sl tree.tChange).ext0 hl (by repeat (first | exact Ext.refl _ | assumption | refine Ext.trans (by assumption) ?_)))) ?_
    rintro _ w23 ⟨rfl, X23⟩
    have z23 := X23.size
    refine .p rfl rfl (.pickF rfl rfl) ?_
    refine .p rfl rfl (.mv rfl) ?_
    refine .case 25 rfl (fun c25 => ?_) (fun c25 => ?_)
    · refine .skip rfl rfl ?_
      refine .skip rfl rfl ?_
      refine .skip rfl rfl ?_
      refine .skip rfl rfl ?_
      refine .p rfl rfl (.pickT rfl rfl) ?_
      refine .p rfl rfl (.mv rfl) ?_
      refine .skip rfl rfl ?_
      refine .skip rfl rfl ?_
      refine .skip rfl rfl ?_
      refine .p rfl rfl (.pickT rfl rfl) ?_
      refine .nil (.code (.keep [(35, _), (9, _), (4, _), (1, _), (2, _), (3, _)] ⟨rfl, rfl, rfl, rfl, rfl, rfl, trivial⟩ (.condT rfl (.seq (.keep [(9, _)] ⟨rfl, trivial⟩ (.region ?_))))))
      refine .p rfl rfl (.mv rfl) ?_
      refine .p rfl rfl (.as rfl) ?_
      refine .nil (.code ?_)
      refine .ret _ rfl ?_
      first
        | exact ⟨rfl, (by repeat (first | exact Ext.refl _ | assumption | refine Ext.trans (by assumption) ?_))⟩
        | (refine ⟨?_, (by repeat (first | exact Ext.refl _ | assumption | refine Ext.trans (by assumption) ?_))⟩
           rcases p5 with hh | ⟨hlt, hh⟩
           · have := hb79 hh
             simp_all
           · first
               | (rw [← map2_nil] at hh
                  rw [hb88 hh]
                  rfl)
               | (exfalso; omega))
    · refine .p rfl rfl (.fieldAddr rfl rfl rfl rfl) ?_
      refine .p rfl rfl (.load rfl rfl rfl ((B4.ext (S := fun _ => False) (by repeat (first | exact Ext.refl _ | assumption | refine Ext.trans (by assumption) ?_)) (fun x => x)).cell 2)) ?_
      refine .p rfl rfl (.len rfl rfl) ?_
      refine .p rfl rfl (.gt rfl rfl) ?_
      refine .p rfl rfl (.pickF rfl rfl) ?_
      refine .p rfl rfl (.mv rfl) ?_
      refine .caseD 31 rfl (fun c31 => ?_) (fun c31 => ?_)
      · refine .skip rfl rfl ?_
        refine .skip rfl rfl ?_
        refine .skip rfl rfl ?_
        refine .p rfl rfl (.pickT rfl rfl) ?_
        refine .nil (.code (.keep [(35, _), (9, _), (4, _), (1, _), (2, _), (3, _)] ⟨rfl, rfl, rfl, rfl, rfl, rfl, trivial⟩ (.condT rfl (.seq (.keep [(9, _)] ⟨rfl, trivial⟩ (.region ?_))))))
        refine .p rfl rfl (.mv rfl) ?_
        refine .p rfl rfl (.as rfl) ?_
        refine .nil (.code ?_)
        refine .ret _ rfl ?_
        first
          | exact ⟨rfl, (by repeat (first | exact Ext.refl _ | assumption | refine Ext.trans (by assumption) ?_))⟩
          | (refine ⟨?_, (by repeat (first | exact Ext.refl _ | assumption | refine Ext.trans (by assumption) ?_))⟩
             rcases p5 with hh | ⟨hlt, hh⟩
             · have := hb79 hh
               simp_all
             · first
                 | (rw [← map2_nil] at hh
                    rw [hb88 hh]
                    rfl)
                 | (exfalso; omega))
      · refine .p rfl rfl (.mv rfl) ?_
        refine .p rfl rfl (.len rfl rfl) ?_
        refine .p rfl rfl (.gt rfl rfl) ?_
        refine .p rfl rfl (.pickF rfl rfl) ?_
        refine .nil (.code (.keep [(35, _), (9, _), (4, _), (1, _), (2, _), (3, _)] ⟨rfl, rfl, rfl, rfl, rfl, rfl, trivial⟩ ?_))
        refine .condD rfl (fun c35 => ?_) (fun c35 => ?_)
        · refine .seq (.keep [(9, _)] ⟨rfl, trivial⟩ (.region ?_))
          refine .p rfl rfl (.mv rfl) ?_
          refine .p rfl rfl (.as rfl) ?_
          refine .nil (.code ?_)
          refine .ret _ rfl ?_
          first
            | exact ⟨rfl, (by repeat (first | exact Ext.refl _ | assumption | refine Ext.trans (by assumption) ?_))⟩
            | (refine ⟨?_, (by repeat (first | exact Ext.refl _ | assumption | refine Ext.trans (by assumption) ?_))⟩
               rcases p5 with hh | ⟨hlt, hh⟩
               · have := hb79 hh
                 simp_all
               · first
                   | (rw [← map2_nil] at hh
                      rw [hb88 hh]
                      rfl)
                   | (exfalso; omega))
        · refine .skip (.code (.seq (.keep [(9, _), (4, _), (1, _), (2, _), (3, _)] ⟨rfl, rfl, rfl, rfl, rfl, trivial⟩ (.region ?_))))
          refine .p rfl rfl (.loadA (n := 3) rfl rfl rfl rfl rfl (B4.ext (S := fun _ => False) (by repeat (first | exact Ext.refl _ | assumption | refine Ext.trans (by assumption) ?_)) (fun x => x)).cells) ?_
          refine .p rfl rfl (.mv rfl) ?_
          refine .call (first := []) (captured := []) rfl rfl rfl rfl (Turn_fn (d := d) (l := l) (allOf (disk.tDisk.ext0 R3 (by repeat (first | exact Ext.refl _ | assumption | refine Ext.trans (by assumption) ?_)))) ((Sl tree.tChange).ext0 hl (by repeat (first | exact Ext.refl _ | assumption | refine Ext.trans (by assumption) ?_))) (hg.ext0 (by repeat (first | exact Ext.refl _ | assumption | refine Ext.trans (by assumption) ?_)))) ?_
          rintro _ w40 ⟨v40, Q40, A40, rfl, O40, hQ40, hB40, X40⟩
          have z40 := X40.size
          obtain ⟨aa, ca, rfl, hca⟩ := OwnO.val O40
          have hlA : (Sl disk.tAct).rep (fun k => k < w40.heap.size) w40 _ (turnF d l).1 := (Sl disk.tAct).mono (actsO_rep O40) (fun k _ h => h)
          refine .p rfl rfl (.mv rfl) ?_
          refine .p rfl rfl (.extract rfl rfl) ?_
          refine .p rfl rfl (.extract rfl rfl) ?_
          refine .p rfl rfl (.as rfl) ?_
          refine .p rfl rfl (.as rfl) ?_
          refine .nil (.code (.seq (.seq (.keep [(11, _), (10, _), (9, _), (4, _), (1, _), (2, _), (3, _)] ⟨rfl, rfl, rfl, rfl, rfl, rfl, rfl, trivial⟩ (.region ?_)))))
          refine .p rfl rfl (.mv rfl) ?_
          refine .p rfl rfl (.ne rfl rfl) ?_
          refine .p rfl rfl (.mv rfl) ?_
          refine .caseD 45 rfl (fun c45 => ?_) (fun c45 => ?_)
          · refine .skip rfl rfl ?_
            refine .skip rfl rfl ?_
            refine .p rfl rfl (.pickT rfl rfl) ?_
            refine .p rfl rfl (.mv rfl) ?_
            refine .skip rfl rfl ?_
            refine .skip rfl rfl ?_
            refine .skip rfl rfl ?_
            refine .skip rfl rfl ?_
            refine .p rfl rfl (.pickT rfl rfl) ?_
            refine .nil (.code (.keep [(54, _), (10, _), (9, _), (4, _), (1, _), (2, _), (3, _)] ⟨rfl, rfl, rfl, rfl, rfl, rfl, rfl, trivial⟩ (.condT rfl (.seq (.keep [(9, _)] ⟨rfl, trivial⟩ (.region ?_))))))
            refine .p rfl rfl (.mv rfl) ?_
            refine .p rfl rfl (.as rfl) ?_
            refine .nil (.code ?_)
            refine .ret _ rfl ?_
            first
              | exact ⟨rfl, (by repeat (first | exact Ext.refl _ | assumption | refine Ext.trans (by assumption) ?_))⟩
              | (refine ⟨?_, (by repeat (first | exact Ext.refl _ | assumption | refine Ext.trans (by assumption) ?_))⟩
                 rcases p5 with hh | ⟨hlt, hh⟩
                 · have := hb79 hh
                   simp_all
                 · first
                     | (rw [← map2_nil] at hh
                        rw [hb88 hh]
                        rfl)
                     | (exfalso; omega))
          · refine .p rfl rfl (.mv rfl) ?_
            refine .p rfl rfl (.lt rfl rfl) ?_
            refine .p rfl rfl (.pickF rfl rfl) ?_
            refine .p rfl rfl (.mv rfl) ?_
            refine .caseD 49 rfl (fun c49 => ?_) (fun c49 => ?_)
            · refine .skip rfl rfl ?_
              refine .skip rfl rfl ?_
              refine .skip rfl rfl ?_
              refine .skip rfl rfl ?_
              refine .p rfl rfl (.pickT rfl rfl) ?_
              refine .nil (.code (.keep [(54, _), (10, _), (9, _), (4, _), (1, _), (2, _), (3, _)] ⟨rfl, rfl, rfl, rfl, rfl, rfl, rfl, trivial⟩ (.condT rfl (.seq (.keep [(9, _)] ⟨rfl, trivial⟩ (.region ?_))))))
              refine .p rfl rfl (.mv rfl) ?_
              refine .p rfl rfl (.as rfl) ?_
              refine .nil (.code ?_)
              refine .ret _ rfl ?_
              first
                | exact ⟨rfl, (by repeat (first | exact Ext.refl _ | assumption | refine Ext.trans (by assumption) ?_))⟩
                | (refine ⟨?_, (by repeat (first | exact Ext.refl _ | assumption | refine Ext.trans (by assumption) ?_))⟩
                   rcases p5 with hh | ⟨hlt, hh⟩
                   · have := hb79 hh
                     simp_all
                   · first
                       | (rw [← map2_nil] at hh
                          rw [hb88 hh]
                          rfl)
                       | (exfalso; omega))
            · refine .p rfl rfl (.mv rfl) ?_
              refine .p rfl rfl (.mv rfl) ?_
              refine .p rfl rfl (.len rfl rfl) ?_
              refine .p rfl rfl (.gt rfl rfl) ?_
              refine .p rfl rfl (.pickF rfl rfl) ?_
              refine .nil (.code (.keep [(54, _), (10, _), (9, _), (4, _), (1, _), (2, _), (3, _)] ⟨rfl, rfl, rfl, rfl, rfl, rfl, rfl, trivial⟩ ?_))
              refine .condD rfl (fun c54 => ?_) (fun c54 => ?_)
              · refine .seq (.keep [(9, _)] ⟨rfl, trivial⟩ (.region ?_))
                refine .p rfl rfl (.mv rfl) ?_
                refine .p rfl rfl (.as rfl) ?_
                refine .nil (.code ?_)
                refine .ret _ rfl ?_
                first
                  | exact ⟨rfl, (by repeat (first | exact Ext.refl _ | assumption | refine Ext.trans (by assumption) ?_))⟩
                  | (refine ⟨?_, (by repeat (first | exact Ext.refl _ | assumption | refine Ext.trans (by assumption) ?_))⟩
                     rcases p5 with hh | ⟨hlt, hh⟩
                     · have := hb79 hh
                       simp_all
                     · first
                         | (rw [← map2_nil] at hh
                            rw [hb88 hh]
                            rfl)
                         | (exfalso; omega))
              · have hst : (turnF d l).2 = 0 := Decidable.not_not.1 c45
                have hl200 := (heavyL_not (by assumption)).1
                have hw0 : d.waits = [] := List.length_eq_zero_iff.1 (by omega)
                obtain ⟨N, b, ht⟩ := turned_of hst
                have hnn : n.toNat ≤ (turnF d l).1.length := by omega
                obtain ⟨x', p1, p2, p3, p4, p5⟩ := ht.crash hw0 hnn
                replace p5 := p5 (fun i => ks.getD i false)
                obtain ⟨a45, c45, hv45, hc45, R45⟩ := Sl.cutE hlA 0 n.toNat (by omega) (by omega)
                simp only [Nat.sub_zero] at hv45 R45
                refine .skip (.code (.seq (.keep [(10, _), (9, _), (4, _), (1, _), (2, _), (3, _)] ⟨rfl, rfl, rfl, rfl, rfl, rfl, trivial⟩ ?_)))
                have B4w := B4.ext (S := fun _ => False) (w' := w40) (by repeat (first | exact Ext.refl _ | assumption | refine Ext.trans (by assumption) ?_)) (fun x => x)
                refine .meet (S := Nat × Disk × Int × (Option Addr × Nat × Option Addr × Nat) × World) (fun s => [(1, .slice al l.length kl), (2, i64 n), (3, .slice ak ks.length capk), (4, .pointer (some ⟨w.heap.size, 0, none⟩)), (9, .bool true), (10, .slice aa (turnF d l).1.length ca), (12, .pointer (some ⟨s.1, 0, none⟩)), (13, i64 s.2.2.1)]) (fun s => s.2.2.2.2) (fun s => Blk s.2.2.2.2 s.1 44 [i64 s.2.1.count, .slice s.2.2.2.1.1 s.2.1.data.length s.2.2.2.1.2.1, .slice s.2.2.2.1.2.2.1 s.2.1.waits.length s.2.2.2.1.2.2.2] ∧ disk.tDisk.rep All s.2.2.2.2 (.agg #[i64 s.2.1.count, .slice s.2.2.2.1.1 s.2.1.data.length s.2.2.2.1.2.1, .slice s.2.2.2.1.2.2.1 s.2.1.waits.length s.2.2.2.1.2.2.2]) s.2.1 ∧ Ext (fun _ => False) w40 s.2.2.2.2 ∧ disk.doF d (((turnF d l).1.take n.toNat).drop 0) = (s.2.1, s.2.2.1) ∧ s.1 < s.2.2.2.2.heap.size) ?_ ?_
                · rintro ⟨p, x, e, ⟨f1, g1, h1, i1⟩, wm⟩ ⟨Bm, Rm, Xm, hxe, hpl⟩
                  simp only at Bm Rm Xm hxe hpl
                  have zwm : w40.heap.size ≤ wm.heap.size := Xm.size
                  change A _ [(1, .slice al l.length kl), (2, i64 n), (3, .slice ak ks.length capk), (4, .pointer (some ⟨w.heap.size, 0, none⟩)), (9, .bool true), (10, .slice aa (turnF d l).1.length ca), (12, .pointer (some ⟨p, 0, none⟩)), (13, i64 e)] _ wm
                  refine .code (.seq (.seq ?_))
                  rw [List.drop_zero] at hxe
                  obtain ⟨e1, e2⟩ := Prod.mk.inj (hxe.symm.trans p1)
                  subst e1
                  subst e2
                  have hcr := crash_0 p2 ks
                  refine .region ?_
                  refine .p rfl rfl (.mv rfl) ?_
                  refine .p rfl rfl (.no (.ne rfl rfl) (fun h => h rfl)) ?_
                  refine .nil (.code (.keep [(65, _), (1, _), (2, _), (3, _), (4, _), (9, _), (10, _), (12, _)] ⟨rfl, rfl, rfl, rfl, rfl, rfl, rfl, rfl, trivial⟩ (.condF rfl (.skip (.code (.seq (.keep [(1, _), (2, _), (3, _), (4, _), (9, _), (10, _), (12, _)] ⟨rfl, rfl, rfl, rfl, rfl, rfl, rfl, trivial⟩ (.region ?_))))))))
                  refine .p rfl rfl (.loadA (n := 3) rfl rfl rfl rfl rfl (Bm.ext (S := fun _ => False) (by repeat (first | exact Ext.refl _ | assumption | refine Ext.trans (by assumption) ?_)) (fun x => x)).cells) ?_
                  refine .p rfl rfl (.mv rfl) ?_
                  refine .call (first := []) (captured := []) rfl rfl rfl rfl (Crash_fn (d := x) (ks := ks) (allOf (disk.tDisk.ext0 Rm (by repeat (first | exact Ext.refl _ | assumption | refine Ext.trans (by assumption) ?_)))) (allOf ((Sl tBool).ext0 hkb (by repeat (first | exact Ext.refl _ | assumption | refine Ext.trans (by assumption) ?_))))) ?_
                  rintro _ w69 ⟨v69, rfl, D69, X69⟩
                  have z69 := X69.size
                  rw [hcr] at D69 ⊢
                  have R69 := D69.rep
                  obtain ⟨x1, y1, x2, y2, rfl⟩ := diskShape R69
                  refine .p rfl rfl (.mv rfl) ?_
                  refine .p rfl rfl (.extract rfl rfl) ?_
                  refine .p rfl rfl (.extract rfl rfl) ?_
                  refine .v rfl rfl (.alloc rfl rfl) ?_
                  rintro _ wn14 ⟨rfl, N14⟩
                  refine .s rfl (.storeAll (n := 3) rfl rfl rfl rfl rfl N14.blk rfl) ?_
                  intro w14 P14
                  have Y14 := N14.ext.then P14.ext (by rintro k rfl _; exact Nat.le_refl _)
                  have zy14 := Y14.size
                  have B14 := P14.blk
                  clear P14 N14
                  refine .p rfl rfl (.as rfl) ?_
                  refine .nil (.code (.seq (.seq (.keep [(15, _), (14, _), (1, _), (2, _), (4, _), (9, _), (10, _)] ⟨rfl, rfl, rfl, rfl, rfl, rfl, rfl, trivial⟩ (.region ?_)))))
                  refine .p rfl rfl (.mv rfl) ?_
                  refine .p rfl rfl (.no (.ne rfl rfl) (fun h => h rfl)) ?_
                  refine .nil (.code (.keep [(73, _), (14, _), (1, _), (2, _), (4, _), (9, _), (10, _)] ⟨rfl, rfl, rfl, rfl, rfl, rfl, rfl, trivial⟩ (.condF rfl (.skip (.code (.seq (.keep [(14, _), (1, _), (2, _), (4, _), (9, _), (10, _)] ⟨rfl, rfl, rfl, rfl, rfl, rfl, trivial⟩ (.region ?_))))))))
                  refine .p rfl rfl (.mv rfl) ?_
                  refine .p rfl rfl (.mv rfl) ?_
                  refine .p rfl rfl (.loadA (n := 3) rfl rfl rfl rfl rfl (B14.ext (S := fun _ => False) (by repeat (first | exact Ext.refl _ | assumption | refine Ext.trans (by assumption) ?_)) (fun x => x)).cells) ?_
                  refine .p rfl rfl (.loadA (n := 3) rfl rfl rfl rfl rfl (B4.ext (S := fun _ => False) (by repeat (first | exact Ext.refl _ | assumption | refine Ext.trans (by assumption) ?_)) (fun x => x)).cells) ?_
                  refine .p rfl rfl (.mv rfl) ?_
                  refine .call (first := []) (captured := []) rfl rfl rfl rfl (holds_fn (x := disk.settleD x (fun i => ks.getD i false)) (allOf (disk.tDisk.ext0 R69 (by repeat (first | exact Ext.refl _ | assumption | refine Ext.trans (by assumption) ?_)))) (allOf (disk.tDisk.ext0 R3 (by repeat (first | exact Ext.refl _ | assumption | refine Ext.trans (by assumption) ?_)))) ((Sl tree.tChange).ext0 hl (by repeat (first | exact Ext.refl _ | assumption | refine Ext.trans (by assumption) ?_))) hl200 (hg.ext0 (by repeat (first | exact Ext.refl _ | assumption | refine Ext.trans (by assumption) ?_)))) ?_
                  rintro _ w79 ⟨b79, rfl, hb79, X79⟩
                  have z79 := X79.size
                  refine .p rfl rfl (.mv rfl) ?_
                  refine .case 80 rfl (fun c80 => ?_) (fun c80 => ?_)
                  · refine .skip rfl rfl ?_
                    refine .skip rfl rfl ?_
                    refine .skip rfl rfl ?_
                    refine .skip rfl rfl ?_
                    refine .skip rfl rfl ?_
                    refine .skip rfl rfl ?_
                    refine .skip rfl rfl ?_
                    refine .skip rfl rfl ?_
                    refine .skip rfl rfl ?_
                    refine .p rfl rfl (.pickT rfl rfl) ?_
                    refine .p rfl rfl (.pickT rfl rfl) ?_
                    refine .p rfl rfl (.as rfl) ?_
                    refine .nil (.code ?_)
                    refine .ret _ rfl ?_
                    first
                      | exact ⟨rfl, (by repeat (first | exact Ext.refl _ | assumption | refine Ext.trans (by assumption) ?_))⟩
                      | (refine ⟨?_, (by repeat (first | exact Ext.refl _ | assumption | refine Ext.trans (by assumption) ?_))⟩
                         rcases p5 with hh | ⟨hlt, hh⟩
                         · have := hb79 hh
                           simp_all
                         · first
                             | (rw [← map2_nil] at hh
                                rw [hb88 hh]
                                rfl)
                             | (exfalso; omega))
                  · refine .p rfl rfl (.mv rfl) ?_
                    refine .p rfl rfl (.mv rfl) ?_
                    refine .p rfl rfl (.len rfl rfl) ?_
                    refine .p rfl rfl (.lt rfl rfl) ?_
                    refine .p rfl rfl (.mv rfl) ?_
                    refine .caseD 85 rfl (fun c85 => ?_) (fun c85 => ?_)
                    · refine .p rfl rfl (.loadA (n := 3) rfl rfl rfl rfl rfl (B14.ext (S := fun _ => False) (by repeat (first | exact Ext.refl _ | assumption | refine Ext.trans (by assumption) ?_)) (fun x => x)).cells) ?_
                      refine .p rfl rfl (.loadA (n := 3) rfl rfl rfl rfl rfl (B4.ext (S := fun _ => False) (by repeat (first | exact Ext.refl _ | assumption | refine Ext.trans (by assumption) ?_)) (fun x => x)).cells) ?_
                      refine .call (first := []) (captured := []) rfl rfl rfl rfl (holds_fn (x := disk.settleD x (fun i => ks.getD i false)) (l := []) (allOf (disk.tDisk.ext0 R69 (by repeat (first | exact Ext.refl _ | assumption | refine Ext.trans (by assumption) ?_)))) (allOf (disk.tDisk.ext0 R3 (by repeat (first | exact Ext.refl _ | assumption | refine Ext.trans (by assumption) ?_)))) Sl.nil (by decide) (hg.ext0 (by repeat (first | exact Ext.refl _ | assumption | refine Ext.trans (by assumption) ?_)))) ?_
                      rintro _ w88 ⟨b88, rfl, hb88, X88⟩
                      have z88 := X88.size
                      refine .p rfl rfl (.pickT rfl rfl) ?_
                      refine .p rfl rfl (.pickF rfl rfl) ?_
                      refine .p rfl rfl (.pickT rfl rfl) ?_
                      refine .p rfl rfl (.as rfl) ?_
                      refine .nil (.code ?_)
                      refine .ret _ rfl ?_
                      first
                        | exact ⟨rfl, (by repeat (first | exact Ext.refl _ | assumption | refine Ext.trans (by assumption) ?_))⟩
                        | (refine ⟨?_, (by repeat (first | exact Ext.refl _ | assumption | refine Ext.trans (by assumption) ?_))⟩
                           rcases p5 with hh | ⟨hlt, hh⟩
                           · have := hb79 hh
                             simp_all
                           · first
                               | (rw [← map2_nil] at hh
                                  rw [hb88 hh]
                                  rfl)
                               | (exfalso; omega))
                    · refine .skip rfl rfl ?_
                      refine .skip rfl rfl ?_
                      refine .skip rfl rfl ?_
                      refine .p rfl rfl (.pickF rfl rfl) ?_
                      refine .p rfl rfl (.pickF rfl rfl) ?_
                      refine .p rfl rfl (.pickT rfl rfl) ?_
                      refine .p rfl rfl (.as rfl) ?_
                      refine .nil (.code ?_)
                      refine .ret _ rfl ?_
                      first
                        | exact ⟨rfl, (by repeat (first | exact Ext.refl _ | assumption | refine Ext.trans (by assumption) ?_))⟩
                        | (refine ⟨?_, (by repeat (first | exact Ext.refl _ | assumption | refine Ext.trans (by assumption) ?_))⟩
                           rcases p5 with hh | ⟨hlt, hh⟩
                           · have := hb79 hh
                             simp_all
                           · first
                               | (rw [← map2_nil] at hh
                                  rw [hb88 hh]
                                  rfl)
                               | (exfalso; omega))
                · intro meet
                  refine .tree (fun k => w40.heap.size ≤ k) [4, 8, 9] (.op 0 (.op 1 (.op 2 (.op 3 (.alt 4 (.op 4 (.op 5 (.op 6 (.op 7 (.alt 8 (.op 8 (.alt 9 (.op 9 (.op 10 (.nil))) (.stop))) (.stop)))))) (.alt 8 (.op 8 (.alt 4 (.op 4 (.op 5 (.op 6 (.op 7 (.alt 9 (.op 9 (.op 10 (.nil))) (.stop)))))) (.stop))) (.stop))))))) (by kernel_rfl) (by kernel_rfl) (by kernel_rfl) ?_
                  refine .p rfl rfl rfl rfl (fun wx hx => .loadA (n := 3) rfl rfl rfl rfl rfl (B4w.ext hx (by show ¬ (w40.heap.size ≤ _); omega)).cells) ?_
                  refine .p rfl rfl rfl rfl (fun wx hx => .mv rfl) ?_
                  refine .p rfl rfl rfl rfl (fun wx hx => .mv rfl) ?_
                  refine .p rfl rfl rfl rfl (fun wx hx => .cast (.cutHi (s := 3) rfl rfl rfl rfl (by omega)) hv45) ?_
                  refine .alt ?_ ?_
                  · refine .call (first := []) (captured := []) rfl rfl rfl rfl rfl rfl (DoE_fn (d := d) (l := ((turnF d l).1.take n.toNat).drop 0) (allOf (disk.tDisk.ext (disk.tDisk.ext0 R3 (by repeat (first | exact Ext.refl _ | assumption | refine Ext.trans (by assumption) ?_))) (Ext.refl _) (by intro k hk _ he; have he : w40.heap.size ≤ k := he; have hk : k < w.heap.size := hk; omega))) (allOf ((Sl disk.tAct).ext ((Sl disk.tAct).ext0 R45 (by repeat (first | exact Ext.refl _ | assumption | refine Ext.trans (by assumption) ?_))) (Ext.refl _) (by intro k hk _ he; have he : w40.heap.size ≤ k := he; omega)))) (by rintro _ _ ⟨_, _, _, _, _, _, hx⟩; exact (Ext.refl _).trans (hx.mono (fun _ _ h => h.elim))) ?_
                    rintro _ w61 ⟨v61, x61, e61, hx61, rfl, R61, X61⟩
                    have z61 := X61.size
                    obtain ⟨f61, g61, p61, q61, rfl⟩ := diskShape R61
                    have hX61 : Ext (fun k => w40.heap.size ≤ k) _ _ := (Ext.refl _).trans (X61.mono (fun _ _ h => h.elim))
                    refine .p rfl rfl rfl rfl (fun wx hx => .mv rfl) ?_
                    refine .p rfl rfl rfl rfl (fun wx hx => .extract rfl rfl) ?_
                    refine .p rfl rfl rfl rfl (fun wx hx => .extract rfl rfl) ?_
                    refine .alt ?_ ?_
                    · refine .v rfl rfl rfl rfl (.alloc rfl rfl) (by rintro _ _ ⟨_, hN⟩; exact hX61.trans hN.ext0) ?_
                      rintro _ wa12 ⟨rfl, N12⟩
                      have z12 := N12.size
                      have hX12 : Ext (fun k => w40.heap.size ≤ k) _ _ := hX61.trans (N12.ext0)
                      refine .alt ?_ ?_
                      · refine .s rfl rfl rfl (.storeAll (n := 3) (E := 44) (cs := [i64 0, .slice none 0 0, .slice none 0 0]) rfl rfl rfl rfl rfl (by first | exact N12.blk | exact N12.blk.ext X61 (fun x => x)) rfl) (by intro wz hP; exact hX12.trans (hP.ext.mono (by rintro k _ rfl; show w40.heap.size ≤ _; omega))) ?_
                        intro wb12 P12
                        have hXs9 : Ext (fun k => w40.heap.size ≤ k) _ _ := hX12.trans (P12.ext.mono (by rintro k _ rfl; show w40.heap.size ≤ _; omega))
                        refine .p rfl rfl rfl rfl (fun wx hx => .as rfl) ?_
                        refine .nil ?_
                        have zb := P12.size
                        exact (meet (w61.heap.size, x61, e61, (f61, g61, p61, q61), wb12) ⟨P12.blk, allOf (disk.tDisk.ext (disk.tDisk.ext0 R61 N12.ext) P12.ext (fun k hk _ he => by have he : k = w61.heap.size := he; omega)), (Ext.refl w40).then hXs9 (fun k hk _ => hk), hx61, by show w61.heap.size < wb12.heap.size; omega⟩).of ⟨rfl, rfl, rfl, rfl, rfl, rfl, rfl, rfl, trivial⟩
                      exact .stop
                    exact .stop
                  refine .alt ?_ ?_
                  · refine .v rfl rfl rfl rfl (.alloc rfl rfl) (by rintro _ _ ⟨_, hN⟩; exact (Ext.refl _).trans hN.ext0) ?_
                    rintro _ wa12 ⟨rfl, N12⟩
                    have z12 := N12.size
                    have hX12 : Ext (fun k => w40.heap.size ≤ k) _ _ := (Ext.refl _).trans (N12.ext0)
                    refine .alt ?_ ?_
                    · refine .call (first := []) (captured := []) rfl rfl rfl rfl rfl rfl (DoE_fn (d := d) (l := ((turnF d l).1.take n.toNat).drop 0) (allOf (disk.tDisk.ext (disk.tDisk.ext0 R3 (by repeat (first | exact Ext.refl _ | assumption | refine Ext.trans (by assumption) ?_))) hX12 (by intro k hk _ he; have he : w40.heap.size ≤ k := he; have hk : k < w.heap.size := hk; omega))) (allOf ((Sl disk.tAct).ext ((Sl disk.tAct).ext0 R45 (by repeat (first | exact Ext.refl _ | assumption | refine Ext.trans (by assumption) ?_))) hX12 (by intro k hk _ he; have he : w40.heap.size ≤ k := he; omega)))) (by rintro _ _ ⟨_, _, _, _, _, _, hx⟩; exact hX12.trans (hx.mono (fun _ _ h => h.elim))) ?_
                      rintro _ w61 ⟨v61, x61, e61, hx61, rfl, R61, X61⟩
                      have z61 := X61.size
                      obtain ⟨f61, g61, p61, q61, rfl⟩ := diskShape R61
                      have hX61 : Ext (fun k => w40.heap.size ≤ k) _ _ := hX12.trans (X61.mono (fun _ _ h => h.elim))
                      refine .p rfl rfl rfl rfl (fun wx hx => .mv rfl) ?_
                      refine .p rfl rfl rfl rfl (fun wx hx => .extract rfl rfl) ?_
                      refine .p rfl rfl rfl rfl (fun wx hx => .extract rfl rfl) ?_
                      refine .alt ?_ ?_
                      · refine .s rfl rfl rfl (.storeAll (n := 3) (E := 44) (cs := [i64 0, .slice none 0 0, .slice none 0 0]) rfl rfl rfl rfl rfl (by first | exact N12.blk | exact N12.blk.ext X61 (fun x => x)) rfl) (by intro wz hP; exact hX61.trans (hP.ext.mono (by rintro k _ rfl; show w40.heap.size ≤ _; omega))) ?_
                        intro wb12 P12
                        have hXs9 : Ext (fun k => w40.heap.size ≤ k) _ _ := hX61.trans (P12.ext.mono (by rintro k _ rfl; show w40.heap.size ≤ _; omega))
                        refine .p rfl rfl rfl rfl (fun wx hx => .as rfl) ?_
                        refine .nil ?_
                        have zb := P12.size
                        exact (meet (w40.heap.size, x61, e61, (f61, g61, p61, q61), wb12) ⟨P12.blk, allOf (disk.tDisk.ext (R61) P12.ext (fun k hk _ he => by have he : k = w40.heap.size := he; omega)), (Ext.refl w40).then hXs9 (fun k hk _ => hk), hx61, by show w40.heap.size < wb12.heap.size; omega⟩).of ⟨rfl, rfl, rfl, rfl, rfl, rfl, rfl, rfl, trivial⟩
                      exact .stop
                    exact .stop
                  exact .stop
end Go.Proofs.YtpfehnopghffjaaGreatDoor
