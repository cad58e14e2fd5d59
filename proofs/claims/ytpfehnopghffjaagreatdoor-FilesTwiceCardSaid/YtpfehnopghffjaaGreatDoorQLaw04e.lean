/-
  FilesTwice: two turns one behind the other may be broken off as well.
-/
import Derived.Test.YtpfehnopghffjaaGreatDoorQLaw04s
set_option linter.unusedVariables false
set_option linter.unusedSimpArgs false
set_option maxRecDepth 20000
namespace Go.Proofs.YtpfehnopghffjaaGreatDoor
open Go
open room files
attribute [local irreducible] files.getF files.namesF map2F turnF turnedF disk.settleD disk.doF disk.crashF
theorem FilesTwice_fn {w : World} {v vl vm vk : Value} {d : Disk} {l m : List Change} {n : Int} {ks : List Bool} (h : disk.tDisk.rep All w v d) (hl : (Sl tree.tChange).rep All w vl l) (hm : (Sl tree.tChange).rep All w vm m) (hk : (Sl tBool).rep All w vk ks) (hg : GOK w) : Fn Tryz.prog 11 [v, vl, vm, i64 n, vk] w (fun r w2 => r = .bool true ∧ Ext (fun _ => False) w w2) := by
  have R3 := disk.tDisk.mono h (P' := fun k => k < w.heap.size) (fun k _ h => h)
  obtain ⟨u1, q1, u2, q2, rfl⟩ := diskShape h
  have hkb := (Sl tBool).mono hk (P' := fun k => k < w.heap.size) (fun k _ h => h)
  obtain ⟨ak, capk, rfl, hcapk⟩ := Sl.val hk
  obtain ⟨al, kl, rfl, _⟩ := Sl.val hl
  obtain ⟨am, km, rfl, _⟩ := Sl.val hm
  refine Fn.enter (fun w => Tryz.call11 _ w) Tryz.func11 rfl ?_
  refine .seq (.region ?_)
  refine .v rfl rfl (.box rfl) ?_
  rintro _ w5 ⟨rfl, N5⟩
  have B5 := N5.blk
  have X5 := N5.ext
  have z5 := N5.size
  refine .p rfl rfl (.as rfl) ?_
  refine .nil (.code (.seq (.keep [(5, _), (1, _), (2, _), (3, _), (4, _)] ⟨rfl, rfl, rfl, rfl, rfl, trivial⟩ (.region ?_))))
  refine .call (first := []) (captured := []) rfl rfl rfl rfl (filesAlive_fn (hg.ext0 (by repeat (first | exact Ext.refl _ | assumption | refine Ext.trans (by assumption) ?_)))) ?_
  rintro _ w20 ⟨rfl, X20⟩
  have z20 := X20.size
  refine .p rfl rfl (.as rfl) ?_
  refine .nil (.code (.seq (.seq (.keep [(11, _), (5, _), (1, _), (2, _), (3, _), (4, _)] ⟨rfl, rfl, rfl, rfl, rfl, rfl, trivial⟩ (.region ?_)))))
  refine .p rfl rfl (.mv rfl) ?_
  refine .p rfl rfl (.not rfl) ?_
  refine .nil (.code (.keep [(22, _), (11, _), (5, _), (1, _), (2, _), (3, _), (4, _)] ⟨rfl, rfl, rfl, rfl, rfl, rfl, rfl, trivial⟩ (.condF rfl (.skip (.code (.seq (.seq (.keep [(11, _), (5, _), (1, _), (2, _), (3, _), (4, _)] ⟨rfl, rfl, rfl, rfl, rfl, rfl, trivial⟩ (.region ?_)))))))))
  refine .p rfl rfl (.loadA (n := 3) rfl rfl rfl rfl rfl (B5.ext (S := fun _ => False) (by repeat (first | exact Ext.refl _ | assumption | refine Ext.trans (by assumption) ?_)) (fun x => x)).cells) ?_
  refine .call (first := []) (captured := []) rfl rfl rfl rfl (filesLarge_fn (allOf (disk.tDisk.ext0 R3 (by repeat (first | exact Ext.refl _ | assumption | refine Ext.trans (by assumption) ?_))))) ?_
  rintro _ w24 ⟨rfl, X24⟩
  have z24 := X24.size
  refine .p rfl rfl (.mv rfl) ?_
  refine .case 25 rfl (fun c25 => ?_) (fun c25 => ?_)
  · refine .skip rfl rfl ?_
    refine .skip rfl rfl ?_
    refine .p rfl rfl (.pickT rfl rfl) ?_
    refine .p rfl rfl (.mv rfl) ?_
    refine .skip rfl rfl ?_
    refine .skip rfl rfl ?_
    refine .p rfl rfl (.pickT rfl rfl) ?_
    refine .p rfl rfl (.mv rfl) ?_
    refine .skip rfl rfl ?_
    refine .skip rfl rfl ?_
    refine .skip rfl rfl ?_
    refine .skip rfl rfl ?_
    refine .p rfl rfl (.pickT rfl rfl) ?_
    refine .p rfl rfl (.mv rfl) ?_
    refine .skip rfl rfl ?_
    refine .skip rfl rfl ?_
    refine .skip rfl rfl ?_
    refine .p rfl rfl (.pickT rfl rfl) ?_
    refine .nil (.code (.keep [(43, _), (11, _), (5, _), (1, _), (2, _), (3, _), (4, _)] ⟨rfl, rfl, rfl, rfl, rfl, rfl, rfl, trivial⟩ (.condT rfl (.seq (.keep [(11, _)] ⟨rfl, trivial⟩ (.region ?_))))))
    refine .p rfl rfl (.mv rfl) ?_
    refine .p rfl rfl (.as rfl) ?_
    refine .nil (.code ?_)
    refine .ret _ rfl ?_
    first
      | exact ⟨rfl, (by repeat (first | exact Ext.refl _ | assumption | refine Ext.trans (by assumption) ?_))⟩
      | (refine ⟨?_, (by repeat (first | exact Ext.refl _ | assumption | refine Ext.trans (by assumption) ?_))⟩
         rcases p5 with hh | ⟨hlt, hh⟩
         · have := hb100 hh
           simp_all
         · first
             | (rw [hxH.2] at hh
                rw [hb110 hh]
                rfl)
             | (exfalso; omega))
  · refine .p rfl rfl (.mv rfl) ?_
    refine .call (first := []) (captured := []) rfl rfl rfl rfl (heavy_fn ((Sl tree.tChange).ext0 hl (by repeat (first | exact Ext.refl _ | assumption | refine Ext.trans (by assumption) ?_)))) ?_
    rintro _ w27 ⟨rfl, X27⟩
    have z27 := X27.size
    refine .p rfl rfl (.pickF rfl rfl) ?_
    refine .p rfl rfl (.mv rfl) ?_
    refine .case 29 rfl (fun c29 => ?_) (fun c29 => ?_)
    · refine .skip rfl rfl ?_
      refine .skip rfl rfl ?_
      refine .p rfl rfl (.pickT rfl rfl) ?_
      refine .p rfl rfl (.mv rfl) ?_
      refine .skip rfl rfl ?_
      refine .skip rfl rfl ?_
      refine .skip rfl rfl ?_
      refine .skip rfl rfl ?_
      refine .p rfl rfl (.pickT rfl rfl) ?_
      refine .p rfl rfl (.mv rfl) ?_
      refine .skip rfl rfl ?_
      refine .skip rfl rfl ?_
      refine .skip rfl rfl ?_
      refine .p rfl rfl (.pickT rfl rfl) ?_
      refine .nil (.code (.keep [(43, _), (11, _), (5, _), (1, _), (2, _), (3, _), (4, _)] ⟨rfl, rfl, rfl, rfl, rfl, rfl, rfl, trivial⟩ (.condT rfl (.seq (.keep [(11, _)] ⟨rfl, trivial⟩ (.region ?_))))))
      refine .p rfl rfl (.mv rfl) ?_
      refine .p rfl rfl (.as rfl) ?_
      refine .nil (.code ?_)
      refine .ret _ rfl ?_
      first
        | exact ⟨rfl, (by repeat (first | exact Ext.refl _ | assumption | refine Ext.trans (by assumption) ?_))⟩
        | (refine ⟨?_, (by repeat (first | exact Ext.refl _ | assumption | refine Ext.trans (by assumption) ?_))⟩
           rcases p5 with hh | ⟨hlt, hh⟩
           · have := hb100 hh
             simp_all
           · first
               | (rw [hxH.2] at hh
                  rw [hb110 hh]
                  rfl)
               | (exfalso; omega))
    · refine .p rfl rfl (.mv rfl) ?_
      refine .call (first := []) (captured := []) rfl rfl rfl rfl (heavy_fn ((Sl tree.tChange).ext0 hm (by repeat (first | exact Ext.refl _ | assumption | refine Ext.trans (by assumption) ?_)))) ?_
      rintro _ w31 ⟨rfl, X31⟩
      have z31 := X31.size
      refine .p rfl rfl (.pickF rfl rfl) ?_
      refine .p rfl rfl (.mv rfl) ?_
      refine .case 33 rfl (fun c33 => ?_) (fun c33 => ?_)
      · refine .skip rfl rfl ?_
        refine .skip rfl rfl ?_
        refine .skip rfl rfl ?_
        refine .skip rfl rfl ?_
        refine .p rfl rfl (.pickT rfl rfl) ?_
        refine .p rfl rfl (.mv rfl) ?_
        refine .skip rfl rfl ?_
        refine .skip rfl rfl ?_
        refine .skip rfl rfl ?_
        refine .p rfl rfl (.pickT rfl rfl) ?_
        refine .nil (.code (.keep [(43, _), (11, _), (5, _), (1, _), (2, _), (3, _), (4, _)] ⟨rfl, rfl, rfl, rfl, rfl, rfl, rfl, trivial⟩ (.condT rfl (.seq (.keep [(11, _)] ⟨rfl, trivial⟩ (.region ?_))))))
        refine .p rfl rfl (.mv rfl) ?_
        refine .p rfl rfl (.as rfl) ?_
        refine .nil (.code ?_)
        refine .ret _ rfl ?_
        first
          | exact ⟨rfl, (by repeat (first | exact Ext.refl _ | assumption | refine Ext.trans (by assumption) ?_))⟩
          | (refine ⟨?_, (by repeat (first | exact Ext.refl _ | assumption | refine Ext.trans (by assumption) ?_))⟩
             rcases p5 with hh | ⟨hlt, hh⟩
             · have := hb100 hh
               simp_all
             · first
                 | (rw [hxH.2] at hh
                    rw [hb110 hh]
                    rfl)
                 | (exfalso; omega))
      · refine .p rfl rfl (.fieldAddr rfl rfl rfl rfl) ?_
        refine .p rfl rfl (.load rfl rfl rfl ((B5.ext (S := fun _ => False) (by repeat (first | exact Ext.refl _ | assumption | refine Ext.trans (by assumption) ?_)) (fun x => x)).cell 2)) ?_
        refine .p rfl rfl (.len rfl rfl) ?_
        refine .p rfl rfl (.gt rfl rfl) ?_
        refine .p rfl rfl (.pickF rfl rfl) ?_
        refine .p rfl rfl (.mv rfl) ?_
        refine .caseD 39 rfl (fun c39 => ?_) (fun c39 => ?_)
        · refine .skip rfl rfl ?_
          refine .skip rfl rfl ?_
          refine .skip rfl rfl ?_
          refine .p rfl rfl (.pickT rfl rfl) ?_
          refine .nil (.code (.keep [(43, _), (11, _), (5, _), (1, _), (2, _), (3, _), (4, _)] ⟨rfl, rfl, rfl, rfl, rfl, rfl, rfl, trivial⟩ (.condT rfl (.seq (.keep [(11, _)] ⟨rfl, trivial⟩ (.region ?_))))))
          refine .p rfl rfl (.mv rfl) ?_
          refine .p rfl rfl (.as rfl) ?_
          refine .nil (.code ?_)
          refine .ret _ rfl ?_
          first
            | exact ⟨rfl, (by repeat (first | exact Ext.refl _ | assumption | refine Ext.trans (by assumption) ?_))⟩
            | (refine ⟨?_, (by repeat (first | exact Ext.refl _ | assumption | refine Ext.trans (by assumption) ?_))⟩
               rcases p5 with hh | ⟨hlt, hh⟩
               · have := hb100 hh
                 simp_all
               · first
                   | (rw [hxH.2] at hh
                      rw [hb110 hh]
                      rfl)
                   | (exfalso; omega))
        · refine .p rfl rfl (.mv rfl) ?_
          refine .p rfl rfl (.len rfl rfl) ?_
          refine .p rfl rfl (.gt rfl rfl) ?_
          refine .p rfl rfl (.pickF rfl rfl) ?_
          refine .nil (.code (.keep [(43, _), (11, _), (5, _), (1, _), (2, _), (3, _), (4, _)] ⟨rfl, rfl, rfl, rfl, rfl, rfl, rfl, trivial⟩ ?_))
          refine .condD rfl (fun c43 => ?_) (fun c43 => ?_)
          · refine .seq (.keep [(11, _)] ⟨rfl, trivial⟩ (.region ?_))
            refine .p rfl rfl (.mv rfl) ?_
            refine .p rfl rfl (.as rfl) ?_
            refine .nil (.code ?_)
            refine .ret _ rfl ?_
            first
              | exact ⟨rfl, (by repeat (first | exact Ext.refl _ | assumption | refine Ext.trans (by assumption) ?_))⟩
              | (refine ⟨?_, (by repeat (first | exact Ext.refl _ | assumption | refine Ext.trans (by assumption) ?_))⟩
                 rcases p5 with hh | ⟨hlt, hh⟩
                 · have := hb100 hh
                   simp_all
                 · first
                     | (rw [hxH.2] at hh
                        rw [hb110 hh]
                        rfl)
                     | (exfalso; omega))
          · refine .skip (.code (.seq (.keep [(11, _), (5, _), (1, _), (2, _), (3, _), (4, _)] ⟨rfl, rfl, rfl, rfl, rfl, rfl, trivial⟩ (.region ?_))))
            refine .p rfl rfl (.loadA (n := 3) rfl rfl rfl rfl rfl (B5.ext (S := fun _ => False) (by repeat (first | exact Ext.refl _ | assumption | refine Ext.trans (by assumption) ?_)) (fun x => x)).cells) ?_
            refine .p rfl rfl (.mv rfl) ?_
            refine .call (first := []) (captured := []) rfl rfl rfl rfl (turned_fn (d := d) (l := l) (P0 := fun k => k < w.heap.size) (disk.tDisk.ext0 R3 (by repeat (first | exact Ext.refl _ | assumption | refine Ext.trans (by assumption) ?_))) ((Sl tree.tChange).ext0 hl (by repeat (first | exact Ext.refl _ | assumption | refine Ext.trans (by assumption) ?_))) (hg.ext0 (by repeat (first | exact Ext.refl _ | assumption | refine Ext.trans (by assumption) ?_)))) ?_
            rintro _ w48 ⟨v48, rfl, R48, X48⟩
            have z48 := X48.size
            obtain ⟨x9, e0, hxe⟩ : ∃ x9 e0, turnedF d l = (x9, e0) := ⟨_, _, rfl⟩
            rw [hxe] at R48 ⊢
            have R48 := disk.tDisk.mono R48 (P' := fun k => k < w48.heap.size) (fun k _ hl => hl)
            obtain ⟨u3, q3, u4, q4, rfl⟩ := diskShape R48
            refine .p rfl rfl (.mv rfl) ?_
            refine .p rfl rfl (.extract rfl rfl) ?_
            refine .p rfl rfl (.extract rfl rfl) ?_
            refine .v rfl rfl (.alloc rfl rfl) ?_
            rintro _ wn12 ⟨rfl, N12⟩
            refine .s rfl (.storeAll (n := 3) rfl rfl rfl rfl rfl N12.blk rfl) ?_
            intro w12 P12
            have Y12 := N12.ext.then P12.ext (by rintro k rfl _; exact Nat.le_refl _)
            have zy12 := Y12.size
            have B12 := P12.blk
            clear P12 N12
            have hl12 := B12.lt
            refine .p rfl rfl (.as rfl) ?_
            refine .nil (.code (.seq (.seq (.keep [(13, _), (12, _), (11, _), (5, _), (1, _), (2, _), (3, _), (4, _)] ⟨rfl, rfl, rfl, rfl, rfl, rfl, rfl, rfl, trivial⟩ (.region ?_)))))
            refine .p rfl rfl (.mv rfl) ?_
            refine .p rfl rfl (.ne rfl rfl) ?_
            refine .nil (.code (.keep [(52, _), (12, _), (11, _), (5, _), (1, _), (2, _), (3, _), (4, _)] ⟨rfl, rfl, rfl, rfl, rfl, rfl, rfl, rfl, trivial⟩ ?_))
            refine .condD rfl (fun c52 => ?_) (fun c52 => ?_)
            · refine .seq (.keep [(11, _)] ⟨rfl, trivial⟩ (.region ?_))
              refine .p rfl rfl (.mv rfl) ?_
              refine .p rfl rfl (.as rfl) ?_
              refine .nil (.code ?_)
              refine .ret _ rfl ?_
              first
                | exact ⟨rfl, (by repeat (first | exact Ext.refl _ | assumption | refine Ext.trans (by assumption) ?_))⟩
                | (refine ⟨?_, (by repeat (first | exact Ext.refl _ | assumption | refine Ext.trans (by assumption) ?_))⟩
                   rcases p5 with hh | ⟨hlt, hh⟩
                   · have := hb100 hh
                     simp_all
                   · first
                       | (rw [hxH.2] at hh
                          rw [hb110 hh]
                          rfl)
                       | (exfalso; omega))
            · have he0 : e0 = 0 := Decidable.not_not.1 c52
              subst he0
              have hl200 := (heavyL_not (show heavyL l = false by assumption)).1
              have hm200 := (heavyL_not (show heavyL m = false by assumption)).1
              have hw0 : d.waits = [] := List.length_eq_zero_iff.1 (by omega)
              obtain ⟨x8, hx9, hxc, hxct, hxw, hxH⟩ := turned_holds (turned_ok (by rw [hxe])) hw0
              obtain rfl : x9 = x8 := (Prod.mk.inj (hx9.symm.trans hxe)).1.symm
              refine .skip (.code (.seq (.keep [(12, _), (11, _), (5, _), (1, _), (2, _), (3, _), (4, _)] ⟨rfl, rfl, rfl, rfl, rfl, rfl, rfl, trivial⟩ (.region ?_))))
              refine .p rfl rfl (.loadA (n := 3) rfl rfl rfl rfl rfl (B12.ext (S := fun _ => False) (by repeat (first | exact Ext.refl _ | assumption | refine Ext.trans (by assumption) ?_)) (fun x => x)).cells) ?_
              refine .p rfl rfl (.mv rfl) ?_
              refine .call (first := []) (captured := []) rfl rfl rfl rfl (Turn_fn (d := x9) (l := m) (allOf (disk.tDisk.ext0 R48 (by repeat (first | exact Ext.refl _ | assumption | refine Ext.trans (by assumption) ?_)))) ((Sl tree.tChange).ext0 hm (by repeat (first | exact Ext.refl _ | assumption | refine Ext.trans (by assumption) ?_))) (hg.ext0 (by repeat (first | exact Ext.refl _ | assumption | refine Ext.trans (by assumption) ?_)))) ?_
              rintro _ w57 ⟨v57, Q57, A57, rfl, O57, hQ57, hB57, X57⟩
              have z57 := X57.size
              obtain ⟨aa, ca, rfl, hca⟩ := OwnO.val O57
              have hlA : (Sl disk.tAct).rep (fun k => k < w57.heap.size) w57 _ (turnF x9 m).1 := (Sl disk.tAct).mono (actsO_rep O57) (fun k _ h => h)
              refine .p rfl rfl (.mv rfl) ?_
              refine .p rfl rfl (.extract rfl rfl) ?_
              refine .p rfl rfl (.extract rfl rfl) ?_
              refine .p rfl rfl (.as rfl) ?_
              refine .p rfl rfl (.as rfl) ?_
              refine .nil (.code (.seq (.seq (.keep [(15, _), (14, _), (12, _), (11, _), (5, _), (1, _), (2, _), (3, _), (4, _)] ⟨rfl, rfl, rfl, rfl, rfl, rfl, rfl, rfl, rfl, trivial⟩ (.region ?_)))))
              refine .p rfl rfl (.mv rfl) ?_
              refine .p rfl rfl (.ne rfl rfl) ?_
              refine .p rfl rfl (.mv rfl) ?_
              refine .caseD 62 rfl (fun c62 => ?_) (fun c62 => ?_)
              · refine .skip rfl rfl ?_
                refine .skip rfl rfl ?_
                refine .p rfl rfl (.pickT rfl rfl) ?_
                refine .p rfl rfl (.mv rfl) ?_
                refine .skip rfl rfl ?_
                refine .skip rfl rfl ?_
                refine .skip rfl rfl ?_
                refine .skip rfl rfl ?_
                refine .p rfl rfl (.pickT rfl rfl) ?_
                refine .nil (.code (.keep [(71, _), (14, _), (12, _), (11, _), (5, _), (1, _), (2, _), (3, _), (4, _)] ⟨rfl, rfl, rfl, rfl, rfl, rfl, rfl, rfl, rfl, trivial⟩ (.condT rfl (.seq (.keep [(11, _)] ⟨rfl, trivial⟩ (.region ?_))))))
                refine .p rfl rfl (.mv rfl) ?_
                refine .p rfl rfl (.as rfl) ?_
                refine .nil (.code ?_)
                refine .ret _ rfl ?_
                first
                  | exact ⟨rfl, (by repeat (first | exact Ext.refl _ | assumption | refine Ext.trans (by assumption) ?_))⟩
                  | (refine ⟨?_, (by repeat (first | exact Ext.refl _ | assumption | refine Ext.trans (by assumption) ?_))⟩
                     rcases p5 with hh | ⟨hlt, hh⟩
                     · have := hb100 hh
                       simp_all
                     · first
                         | (rw [hxH.2] at hh
                            rw [hb110 hh]
                            rfl)
                         | (exfalso; omega))
              · refine .p rfl rfl (.mv rfl) ?_
                refine .p rfl rfl (.lt rfl rfl) ?_
                refine .p rfl rfl (.pickF rfl rfl) ?_
                refine .p rfl rfl (.mv rfl) ?_
                refine .caseD 66 rfl (fun c66 => ?_) (fun c66 => ?_)
                · refine .skip rfl rfl ?_
                  refine .skip rfl rfl ?_
                  refine .skip rfl rfl ?_
                  refine .skip rfl rfl ?_
                  refine .p rfl rfl (.pickT rfl rfl) ?_
                  refine .nil (.code (.keep [(71, _), (14, _), (12, _), (11, _), (5, _), (1, _), (2, _), (3, _), (4, _)] ⟨rfl, rfl, rfl, rfl, rfl, rfl, rfl, rfl, rfl, trivial⟩ (.condT rfl (.seq (.keep [(11, _)] ⟨rfl, trivial⟩ (.region ?_))))))
                  refine .p rfl rfl (.mv rfl) ?_
                  refine .p rfl rfl (.as rfl) ?_
                  refine .nil (.code ?_)
                  refine .ret _ rfl ?_
                  first
                    | exact ⟨rfl, (by repeat (first | exact Ext.refl _ | assumption | refine Ext.trans (by assumption) ?_))⟩
                    | (refine ⟨?_, (by repeat (first | exact Ext.refl _ | assumption | refine Ext.trans (by assumption) ?_))⟩
                       rcases p5 with hh | ⟨hlt, hh⟩
                       · have := hb100 hh
                         simp_all
                       · first
                           | (rw [hxH.2] at hh
                              rw [hb110 hh]
                              rfl)
                           | (exfalso; omega))
                · refine .p rfl rfl (.mv rfl) ?_
                  refine .p rfl rfl (.mv rfl) ?_
                  refine .p rfl rfl (.len rfl rfl) ?_
                  refine .p rfl rfl (.gt rfl rfl) ?_
                  refine .p rfl rfl (.pickF rfl rfl) ?_
                  refine .nil (.code (.keep [(71, _), (14, _), (12, _), (11, _), (5, _), (1, _), (2, _), (3, _), (4, _)] ⟨rfl, rfl, rfl, rfl, rfl, rfl, rfl, rfl, rfl, trivial⟩ ?_))
                  refine .condD rfl (fun c71 => ?_) (fun c71 => ?_)
                  · refine .seq (.keep [(11, _)] ⟨rfl, trivial⟩ (.region ?_))
                    refine .p rfl rfl (.mv rfl) ?_
                    refine .p rfl rfl (.as rfl) ?_
                    refine .nil (.code ?_)
                    refine .ret _ rfl ?_
                    first
                      | exact ⟨rfl, (by repeat (first | exact Ext.refl _ | assumption | refine Ext.trans (by assumption) ?_))⟩
                      | (refine ⟨?_, (by repeat (first | exact Ext.refl _ | assumption | refine Ext.trans (by assumption) ?_))⟩
                         rcases p5 with hh | ⟨hlt, hh⟩
                         · have := hb100 hh
                           simp_all
                         · first
                             | (rw [hxH.2] at hh
                                rw [hb110 hh]
                                rfl)
                             | (exfalso; omega))
                  · have hst : (turnF x9 m).2 = 0 := Decidable.not_not.1 c62
                    obtain ⟨N, b, ht⟩ := turned_of hst
                    have hnn : n.toNat ≤ (turnF x9 m).1.length := by omega
                    obtain ⟨x', p1, p2, p3, p4, p5⟩ := ht.crash hxw hnn
                    replace p5 := p5 (fun i => ks.getD i false)
                    obtain ⟨a45, c45, hv45, hc45, R45⟩ := Sl.cutE hlA 0 n.toNat (by omega) (by omega)
                    simp only [Nat.sub_zero] at hv45 R45
                    refine .skip (.code (.seq (.keep [(14, _), (12, _), (11, _), (5, _), (1, _), (2, _), (3, _), (4, _)] ⟨rfl, rfl, rfl, rfl, rfl, rfl, rfl, rfl, trivial⟩ ?_)))
                    have B12w := B12.ext (S := fun _ => False) (w' := w57) (by repeat (first | exact Ext.refl _ | assumption | refine Ext.trans (by assumption) ?_)) (fun x => x)
                    refine .meet (S := Nat × Disk × Int × (Option Addr × Nat × Option Addr × Nat) × World) (fun s => [(1, .slice al l.length kl), (2, .slice am m.length km), (3, i64 n), (4, .slice ak ks.length capk), (5, .pointer (some ⟨w.heap.size, 0, none⟩)), (11, .bool true), (12, .pointer (some ⟨w48.heap.size, 0, none⟩)), (14, .slice aa (turnF x9 m).1.length ca), (16, .pointer (some ⟨s.1, 0, none⟩)), (17, i64 s.2.2.1)]) (fun s => s.2.2.2.2) (fun s => Blk s.2.2.2.2 s.1 44 [i64 s.2.1.count, .slice s.2.2.2.1.1 s.2.1.data.length s.2.2.2.1.2.1, .slice s.2.2.2.1.2.2.1 s.2.1.waits.length s.2.2.2.1.2.2.2] ∧ disk.tDisk.rep All s.2.2.2.2 (.agg #[i64 s.2.1.count, .slice s.2.2.2.1.1 s.2.1.data.length s.2.2.2.1.2.1, .slice s.2.2.2.1.2.2.1 s.2.1.waits.length s.2.2.2.1.2.2.2]) s.2.1 ∧ Ext (fun _ => False) w57 s.2.2.2.2 ∧ disk.doF x9 (((turnF x9 m).1.take n.toNat).drop 0) = (s.2.1, s.2.2.1) ∧ s.1 < s.2.2.2.2.heap.size) ?_ ?_
                    · rintro ⟨p, x, e, ⟨f1, g1, h1, i1⟩, wm⟩ ⟨Bm, Rm, Xm, hxe2, hpl⟩
                      simp only at Bm Rm Xm hxe2 hpl
                      have zwm : w57.heap.size ≤ wm.heap.size := Xm.size
                      change A _ [(1, .slice al l.length kl), (2, .slice am m.length km), (3, i64 n), (4, .slice ak ks.length capk), (5, .pointer (some ⟨w.heap.size, 0, none⟩)), (11, .bool true), (12, .pointer (some ⟨w48.heap.size, 0, none⟩)), (14, .slice aa (turnF x9 m).1.length ca), (16, .pointer (some ⟨p, 0, none⟩)), (17, i64 e)] _ wm
                      refine .code (.seq ?_)
                      rw [List.drop_zero] at hxe2
                      obtain ⟨e1, e2⟩ := Prod.mk.inj (hxe2.symm.trans p1)
                      subst e1
                      subst e2
                      have hcr := crash_0 p2 ks
                      refine .region ?_
                      refine .p rfl rfl (.loadA (n := 3) rfl rfl rfl rfl rfl (Bm.ext (S := fun _ => False) (by repeat (first | exact Ext.refl _ | assumption | refine Ext.trans (by assumption) ?_)) (fun x => x)).cells) ?_
                      refine .p rfl rfl (.mv rfl) ?_
                      refine .call (first := []) (captured := []) rfl rfl rfl rfl (Crash_fn (d := x) (ks := ks) (allOf (disk.tDisk.ext0 Rm (by repeat (first | exact Ext.refl _ | assumption | refine Ext.trans (by assumption) ?_)))) (allOf ((Sl tBool).ext0 hkb (by repeat (first | exact Ext.refl _ | assumption | refine Ext.trans (by assumption) ?_))))) ?_
                      rintro _ w84 ⟨v84, rfl, D84, X84⟩
                      have z84 := X84.size
                      rw [hcr] at D84 ⊢
                      have R84 := D84.rep
                      obtain ⟨x1, y1, x2, y2, rfl⟩ := diskShape R84
                      refine .p rfl rfl (.mv rfl) ?_
                      refine .p rfl rfl (.extract rfl rfl) ?_
                      refine .p rfl rfl (.extract rfl rfl) ?_
                      refine .v rfl rfl (.alloc rfl rfl) ?_
                      rintro _ wn18 ⟨rfl, N18⟩
                      refine .s rfl (.storeAll (n := 3) rfl rfl rfl rfl rfl N18.blk rfl) ?_
                      intro w18 P18
                      have Y18 := N18.ext.then P18.ext (by rintro k rfl _; exact Nat.le_refl _)
                      have zy18 := Y18.size
                      have B18 := P18.blk
                      clear P18 N18
                      refine .p rfl rfl (.as rfl) ?_
                      refine .nil (.code (.seq (.keep [(19, _), (18, _), (1, _), (2, _), (3, _), (5, _), (11, _), (12, _), (14, _), (17, _)] ⟨rfl, rfl, rfl, rfl, rfl, rfl, rfl, rfl, rfl, rfl, trivial⟩ (.region ?_))))
                      refine .p rfl rfl (.mv rfl) ?_
                      refine .p rfl rfl (.mv rfl) ?_
                      refine .p rfl rfl (.mv rfl) ?_
                      refine .p rfl rfl (.yes (.eq rfl rfl) (rfl)) ?_
                      refine .p rfl rfl (.pickT rfl rfl) ?_
                      refine .p rfl rfl (.mv rfl) ?_
                      refine .p rfl rfl (.mv rfl) ?_
                      refine .p rfl rfl (.yes (.eq rfl rfl) (rfl)) ?_
                      refine .p rfl rfl (.pickT rfl rfl) ?_
                      refine .p rfl rfl (.mv rfl) ?_
                      refine .p rfl rfl (.loadA (n := 3) rfl rfl rfl rfl rfl (B18.ext (S := fun _ => False) (by repeat (first | exact Ext.refl _ | assumption | refine Ext.trans (by assumption) ?_)) (fun x => x)).cells) ?_
                      refine .p rfl rfl (.loadA (n := 3) rfl rfl rfl rfl rfl (B12.ext (S := fun _ => False) (by repeat (first | exact Ext.refl _ | assumption | refine Ext.trans (by assumption) ?_)) (fun x => x)).cells) ?_
                      refine .p rfl rfl (.mv rfl) ?_
                      refine .call (first := []) (captured := []) rfl rfl rfl rfl (holds_fn (x := (disk.settleD x (fun i => ks.getD i false))) (allOf (disk.tDisk.ext0 R84 (by repeat (first | exact Ext.refl _ | assumption | refine Ext.trans (by assumption) ?_)))) (allOf (disk.tDisk.ext0 R48 (by repeat (first | exact Ext.refl _ | assumption | refine Ext.trans (by assumption) ?_)))) ((Sl tree.tChange).ext0 hm (by repeat (first | exact Ext.refl _ | assumption | refine Ext.trans (by assumption) ?_))) hm200 (hg.ext0 (by repeat (first | exact Ext.refl _ | assumption | refine Ext.trans (by assumption) ?_)))) ?_
                      rintro _ w100 ⟨b100, rfl, hb100, X100⟩
                      have z100 := X100.size
                      refine .p rfl rfl (.mv rfl) ?_
                      refine .case 101 rfl (fun c101 => ?_) (fun c101 => ?_)
                      · refine .skip rfl rfl ?_
                        refine .skip rfl rfl ?_
                        refine .skip rfl rfl ?_
                        refine .skip rfl rfl ?_
                        refine .skip rfl rfl ?_
                        refine .skip rfl rfl ?_
                        refine .skip rfl rfl ?_
                        refine .skip rfl rfl ?_
                        refine .skip rfl rfl ?_
                        refine .skip rfl rfl ?_
                        refine .p rfl rfl (.pickT rfl rfl) ?_
                        refine .p rfl rfl (.pickT rfl rfl) ?_
                        refine .p rfl rfl (.as rfl) ?_
                        refine .nil (.code ?_)
                        refine .ret _ rfl ?_
                        first
                          | exact ⟨rfl, (by repeat (first | exact Ext.refl _ | assumption | refine Ext.trans (by assumption) ?_))⟩
                          | (refine ⟨?_, (by repeat (first | exact Ext.refl _ | assumption | refine Ext.trans (by assumption) ?_))⟩
                             rcases p5 with hh | ⟨hlt, hh⟩
                             · have := hb100 hh
                               simp_all
                             · first
                                 | (rw [hxH.2] at hh
                                    rw [hb110 hh]
                                    rfl)
                                 | (exfalso; omega))
                      · refine .p rfl rfl (.mv rfl) ?_
                        refine .p rfl rfl (.mv rfl) ?_
                        refine .p rfl rfl (.len rfl rfl) ?_
                        refine .p rfl rfl (.lt rfl rfl) ?_
                        refine .p rfl rfl (.mv rfl) ?_
                        refine .caseD 106 rfl (fun c106 => ?_) (fun c106 => ?_)
                        · refine .p rfl rfl (.loadA (n := 3) rfl rfl rfl rfl rfl (B18.ext (S := fun _ => False) (by repeat (first | exact Ext.refl _ | assumption | refine Ext.trans (by assumption) ?_)) (fun x => x)).cells) ?_
                          refine .p rfl rfl (.loadA (n := 3) rfl rfl rfl rfl rfl (B5.ext (S := fun _ => False) (by repeat (first | exact Ext.refl _ | assumption | refine Ext.trans (by assumption) ?_)) (fun x => x)).cells) ?_
                          refine .p rfl rfl (.mv rfl) ?_
                          refine .call (first := []) (captured := []) rfl rfl rfl rfl (holds_fn (x := (disk.settleD x (fun i => ks.getD i false))) (allOf (disk.tDisk.ext0 R84 (by repeat (first | exact Ext.refl _ | assumption | refine Ext.trans (by assumption) ?_)))) (allOf (disk.tDisk.ext0 R3 (by repeat (first | exact Ext.refl _ | assumption | refine Ext.trans (by assumption) ?_)))) ((Sl tree.tChange).ext0 hl (by repeat (first | exact Ext.refl _ | assumption | refine Ext.trans (by assumption) ?_))) hl200 (hg.ext0 (by repeat (first | exact Ext.refl _ | assumption | refine Ext.trans (by assumption) ?_)))) ?_
                          rintro _ w110 ⟨b110, rfl, hb110, X110⟩
                          have z110 := X110.size
                          refine .p rfl rfl (.pickT rfl rfl) ?_
                          refine .p rfl rfl (.pickF rfl rfl) ?_
                          refine .p rfl rfl (.pickT rfl rfl) ?_
                          refine .p rfl rfl (.as rfl) ?_
                          refine .nil (.code ?_)
                          refine .ret _ rfl ?_
                          first
                            | exact ⟨rfl, (by repeat (first | exact Ext.refl _ | assumption | refine Ext.trans (by assumption) ?_))⟩
                            | (refine ⟨?_, (by repeat (first | exact Ext.refl _ | assumption | refine Ext.trans (by assumption) ?_))⟩
                               rcases p5 with hh | ⟨hlt, hh⟩
                               · have := hb100 hh
                                 simp_all
                               · first
                                   | (rw [hxH.2] at hh
                                      rw [hb110 hh]
                                      rfl)
                                   | (exfalso; omega))
                        · refine .skip rfl rfl ?_
                          refine .skip rfl rfl ?_
                          refine .skip rfl rfl ?_
                          refine .skip rfl rfl ?_
                          refine .p rfl rfl (.pickF rfl rfl) ?_
                          refine .p rfl rfl (.pickF rfl rfl) ?_
                          refine .p rfl rfl (.pickT rfl rfl) ?_
                          refine .p rfl rfl (.as rfl) ?_
                          refine .nil (.code ?_)
                          refine .ret _ rfl ?_
                          first
                            | exact ⟨rfl, (by repeat (first | exact Ext.refl _ | assumption | refine Ext.trans (by assumption) ?_))⟩
                            | (refine ⟨?_, (by repeat (first | exact Ext.refl _ | assumption | refine Ext.trans (by assumption) ?_))⟩
                               rcases p5 with hh | ⟨hlt, hh⟩
                               · have := hb100 hh
                                 simp_all
                               · first
                                   | (rw [hxH.2] at hh
                                      rw [hb110 hh]
                                      rfl)
                                   | (exfalso; omega))
                    · intro meet
                      refine .tree (fun k => w57.heap.size ≤ k) [4, 8, 9] (.op 0 (.op 1 (.op 2 (.op 3 (.alt 4 (.op 4 (.op 5 (.op 6 (.op 7 (.alt 8 (.op 8 (.alt 9 (.op 9 (.op 10 (.nil))) (.stop))) (.stop)))))) (.alt 8 (.op 8 (.alt 4 (.op 4 (.op 5 (.op 6 (.op 7 (.alt 9 (.op 9 (.op 10 (.nil))) (.stop)))))) (.stop))) (.stop))))))) (by kernel_rfl) (by kernel_rfl) (by kernel_rfl) ?_
                      refine .p rfl rfl rfl rfl (fun wx hx => .loadA (n := 3) rfl rfl rfl rfl rfl (B12w.ext hx (by show ¬ (w57.heap.size ≤ _); omega)).cells) ?_
                      refine .p rfl rfl rfl rfl (fun wx hx => .mv rfl) ?_
                      refine .p rfl rfl rfl rfl (fun wx hx => .mv rfl) ?_
                      refine .p rfl rfl rfl rfl (fun wx hx => .cast (.cutHi (s := 3) rfl rfl rfl rfl (by omega)) hv45) ?_
                      refine .alt ?_ ?_
                      · refine .call (first := []) (captured := []) rfl rfl rfl rfl rfl rfl (DoE_fn (d := x9) (l := ((turnF x9 m).1.take n.toNat).drop 0) (allOf (disk.tDisk.ext (disk.tDisk.ext0 R48 (by repeat (first | exact Ext.refl _ | assumption | refine Ext.trans (by assumption) ?_))) (Ext.refl _) (by intro k hk _ he; have he : w57.heap.size ≤ k := he; have hk : k < w48.heap.size := hk; omega))) (allOf ((Sl disk.tAct).ext ((Sl disk.tAct).ext0 R45 (by repeat (first | exact Ext.refl _ | assumption | refine Ext.trans (by assumption) ?_))) (Ext.refl _) (by intro k hk _ he; have he : w57.heap.size ≤ k := he; omega)))) (by rintro _ _ ⟨_, _, _, _, _, _, hx⟩; exact (Ext.refl _).trans (hx.mono (fun _ _ h => h.elim))) ?_
                        rintro _ w78 ⟨v78, x78, e78, hx78, rfl, R78, X78⟩
                        have z78 := X78.size
                        obtain ⟨f78, g78, p78, q78, rfl⟩ := diskShape R78
                        have hX78 : Ext (fun k => w57.heap.size ≤ k) _ _ := (Ext.refl _).trans (X78.mono (fun _ _ h => h.elim))
                        refine .p rfl rfl rfl rfl (fun wx hx => .mv rfl) ?_
                        refine .p rfl rfl rfl rfl (fun wx hx => .extract rfl rfl) ?_
                        refine .p rfl rfl rfl rfl (fun wx hx => .extract rfl rfl) ?_
                        refine .alt ?_ ?_
                        · refine .v rfl rfl rfl rfl (.alloc rfl rfl) (by rintro _ _ ⟨_, hN⟩; exact hX78.trans hN.ext0) ?_
                          rintro _ wa16 ⟨rfl, N16⟩
                          have z16 := N16.size
                          have hX16 : Ext (fun k => w57.heap.size ≤ k) _ _ := hX78.trans (N16.ext0)
                          refine .alt ?_ ?_
                          · refine .s rfl rfl rfl (.storeAll (n := 3) (E := 44) (cs := [i64 0, .slice none 0 0, .slice none 0 0]) rfl rfl rfl rfl rfl (by first | exact N16.blk | exact N16.blk.ext X78 (fun x => x)) rfl) (by intro wz hP; exact hX16.trans (hP.ext.mono (by rintro k _ rfl; show w57.heap.size ≤ _; omega))) ?_
                            intro wb16 P16
                            have hXs9 : Ext (fun k => w57.heap.size ≤ k) _ _ := hX16.trans (P16.ext.mono (by rintro k _ rfl; show w57.heap.size ≤ _; omega))
                            refine .p rfl rfl rfl rfl (fun wx hx => .as rfl) ?_
                            refine .nil ?_
                            have zb := P16.size
                            exact (meet (w78.heap.size, x78, e78, (f78, g78, p78, q78), wb16) ⟨P16.blk, allOf (disk.tDisk.ext (disk.tDisk.ext0 R78 N16.ext) P16.ext (fun k hk _ he => by have he : k = w78.heap.size := he; omega)), (Ext.refl w57).then hXs9 (fun k hk _ => hk), hx78, by show w78.heap.size < wb16.heap.size; omega⟩).of ⟨rfl, rfl, rfl, rfl, rfl, rfl, rfl, rfl, rfl, rfl, trivial⟩
                          exact .stop
                        exact .stop
                      refine .alt ?_ ?_
                      · refine .v rfl rfl rfl rfl (.alloc rfl rfl) (by rintro _ _ ⟨_, hN⟩; exact (Ext.refl _).trans hN.ext0) ?_
                        rintro _ wa16 ⟨rfl, N16⟩
                        have z16 := N16.size
                        have hX16 : Ext (fun k => w57.heap.size ≤ k) _ _ := (Ext.refl _).trans (N16.ext0)
                        refine .alt ?_ ?_
                        · refine .call (first := []) (captured := []) rfl rfl rfl rfl rfl rfl (DoE_fn (d := x9) (l := ((turnF x9 m).1.take n.toNat).drop 0) (allOf (disk.tDisk.ext (disk.tDisk.ext0 R48 (by repeat (first | exact Ext.refl _ | assumption | refine Ext.trans (by assumption) ?_))) hX16 (by intro k hk _ he; have he : w57.heap.size ≤ k := he; have hk : k < w48.heap.size := hk; omega))) (allOf ((Sl disk.tAct).ext ((Sl disk.tAct).ext0 R45 (by repeat (first | exact Ext.refl _ | assumption | refine Ext.trans (by assumption) ?_))) hX16 (by intro k hk _ he; have he : w57.heap.size ≤ k := he; omega)))) (by rintro _ _ ⟨_, _, _, _, _, _, hx⟩; exact hX16.trans (hx.mono (fun _ _ h => h.elim))) ?_
                          rintro _ w78 ⟨v78, x78, e78, hx78, rfl, R78, X78⟩
                          have z78 := X78.size
                          obtain ⟨f78, g78, p78, q78, rfl⟩ := diskShape R78
                          have hX78 : Ext (fun k => w57.heap.size ≤ k) _ _ := hX16.trans (X78.mono (fun _ _ h => h.elim))
                          refine .p rfl rfl rfl rfl (fun wx hx => .mv rfl) ?_
                          refine .p rfl rfl rfl rfl (fun wx hx => .extract rfl rfl) ?_
                          refine .p rfl rfl rfl rfl (fun wx hx => .extract rfl rfl) ?_
                          refine .alt ?_ ?_
                          · refine .s rfl rfl rfl (.storeAll (n := 3) (E := 44) (cs := [i64 0, .slice none 0 0, .slice none 0 0]) rfl rfl rfl rfl rfl (by first | exact N16.blk | exact N16.blk.ext X78 (fun x => x)) rfl) (by intro wz hP; exact hX78.trans (hP.ext.mono (by rintro k _ rfl; show w57.heap.size ≤ _; omega))) ?_
                            intro wb16 P16
                            have hXs9 : Ext (fun k => w57.heap.size ≤ k) _ _ := hX78.trans (P16.ext.mono (by rintro k _ rfl; show w57.heap.size ≤ _; omega))
                            refine .p rfl rfl rfl rfl (fun wx hx => .as rfl) ?_
                            refine .nil ?_
                            have zb := P16.size
                            exact (meet (w57.heap.size, x78, e78, (f78, g78, p78, q78), wb16) ⟨P16.blk, allOf (disk.tDisk.ext (R78) P16.ext (fun k hk _ he => by have he : k = w57.heap.size := he; omega)), (Ext.refl w57).then hXs9 (fun k hk _ => hk), hx78, by show w57.heap.size < wb16.heap.size; omega⟩).of ⟨rfl, rfl, rfl, rfl, rfl, rfl, rfl, rfl, rfl, rfl, trivial⟩
                          exact .stop
                        exact .stop
                      exact .stop
end Go.Proofs.YtpfehnopghffjaaGreatDoor
