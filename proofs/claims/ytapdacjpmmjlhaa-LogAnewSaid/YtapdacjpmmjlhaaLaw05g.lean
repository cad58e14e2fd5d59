
/-
  LogAnew: walked.
-/
import Derived.Test.YtapdacjpmmjlhaaLaw05f
set_option linter.unusedVariables false
set_option linter.unusedSimpArgs false
set_option maxRecDepth 20000
namespace Go.Proofs.Ytapdacjpmmjlhaa
open Go disk log
theorem LogAnew_fn {w : World} {v vl vk vm : Value} {d : Disk} {l ms : List Bs} {ks : List Bool} {n : Int} (h : tDisk.rep All w v d) (hl : tStrs.rep All w vl l) (hk : (Sl tBool).rep All w vk ks) (hm : tStrs.rep All w vm ms) : Fn Try.prog 9 [v, vl, i64 n, vk, vm] w (fun r w2 => r = .bool true ∧ Ext (fun _ => False) w w2) := by
  have R3 := tDisk.mono h (P' := fun k => k < w.heap.size) (fun k _ h => h)
  obtain ⟨u1, q1, u2, q2, rfl⟩ := disk_shape h
  have hlb := tStrs.mono hl (P' := fun k => k < w.heap.size) (fun k _ h => h)
  have hmb := tStrs.mono hm (P' := fun k => k < w.heap.size) (fun k _ h => h)
  have hkb := (Sl tBool).mono hk (P' := fun k => k < w.heap.size) (fun k _ h => h)
  obtain ⟨al, capl, rfl, hcapl⟩ := Sl.val hl
  obtain ⟨am, capm, rfl, hcapm⟩ := Sl.val hm
  obtain ⟨ak, capk, rfl, hcapk⟩ := Sl.val hk
  refine Fn.enter (fun w => Try.call9 _ w) Try.func9 rfl ?_
  refine .seq (.region ?_)
  refine .v rfl rfl (.box rfl) ?_
  rintro _ w5 ⟨rfl, N5⟩
  have X5 := N5.ext
  have z5 := N5.size
  have B5 := N5.blk
  refine .p rfl rfl (.as rfl) ?_
  refine .nil (.code (.seq (.keep [(5, _), (1, _), (2, _), (3, _), (4, _)] ⟨rfl, rfl, rfl, rfl, rfl, trivial⟩ (.region ?_))))
  refine .call (first := []) (captured := []) rfl rfl rfl rfl (alive_fn) ?_
  rintro _ w31 ⟨rfl, X31⟩
  have z31 := X31.size
  refine .p rfl rfl (.as rfl) ?_
  refine .nil (.code (.seq (.seq (.keep [(11, _), (5, _), (1, _), (2, _), (3, _), (4, _)] ⟨rfl, rfl, rfl, rfl, rfl, rfl, trivial⟩ (.region ?_)))))
  refine .p rfl rfl (.mv rfl) ?_
  refine .p rfl rfl (.not rfl) ?_
  refine .nil (.code (.keep [(33, _), (11, _), (5, _), (1, _), (2, _), (3, _), (4, _)] ⟨rfl, rfl, rfl, rfl, rfl, rfl, rfl, trivial⟩ (.condF rfl (.skip (.code (.seq (.seq (.keep [(11, _), (5, _), (1, _), (2, _), (3, _), (4, _)] ⟨rfl, rfl, rfl, rfl, rfl, rfl, trivial⟩ (.region ?_)))))))))
  refine .p rfl rfl (.loadA (n := 3) rfl rfl rfl rfl rfl (B5.ext (S := fun _ => False) (by repeat (first | exact Ext.refl _ | assumption | refine Ext.trans (by assumption) ?_)) (fun x => x)).cells) ?_
  refine .call (first := []) (captured := []) rfl rfl rfl rfl (largeL_fn (allOf (tDisk.ext0 R3 (by repeat (first | exact Ext.refl _ | assumption | refine Ext.trans (by assumption) ?_))))) ?_
  rintro _ w35 ⟨rfl, X35⟩
  have z35 := X35.size
  refine .p rfl rfl (.mv rfl) ?_
  refine .case 36 rfl (fun c36 => ?_) (fun c36 => ?_)
  · refine .skip rfl rfl ?_
    refine .skip rfl rfl ?_
    refine .skip rfl rfl ?_
    refine .skip rfl rfl ?_
    refine .p rfl rfl (.pickT rfl rfl) ?_
    refine .p rfl rfl (.mv rfl) ?_
    refine .skip rfl rfl ?_
    refine .skip rfl rfl ?_
    refine .skip rfl rfl ?_
    refine .p rfl rfl (.pickT rfl rfl) ?_
    refine .p rfl rfl (.mv rfl) ?_
    refine .skip rfl rfl ?_
    refine .skip rfl rfl ?_
    refine .skip rfl rfl ?_
    refine .p rfl rfl (.pickT rfl rfl) ?_
    refine .p rfl rfl (.mv rfl) ?_
    refine .skip rfl rfl ?_
    refine .skip rfl rfl ?_
    refine .skip rfl rfl ?_
    refine .p rfl rfl (.pickT rfl rfl) ?_
    refine .nil (.code (.keep [(56, _), (11, _), (5, _), (1, _), (2, _), (3, _), (4, _)] ⟨rfl, rfl, rfl, rfl, rfl, rfl, rfl, trivial⟩ (.condT rfl (.seq (.keep [(11, _)] ⟨rfl, trivial⟩ (.region ?_))))))
    refine .p rfl rfl (.mv rfl) ?_
    refine .p rfl rfl (.as rfl) ?_
    refine .nil (.code ?_)
    refine .ret _ rfl ?_
    exact ⟨rfl, (by repeat (first | exact Ext.refl _ | assumption | refine Ext.trans (by assumption) ?_))⟩
  · refine .p rfl rfl (.fieldAddr rfl rfl rfl rfl) ?_
    refine .p rfl rfl (.load rfl rfl rfl ((B5.ext (S := fun _ => False) (by repeat (first | exact Ext.refl _ | assumption | refine Ext.trans (by assumption) ?_)) (fun x => x)).cell 2)) ?_
    refine .p rfl rfl (.len rfl rfl) ?_
    refine .p rfl rfl (.gt rfl rfl) ?_
    refine .p rfl rfl (.pickF rfl rfl) ?_
    refine .p rfl rfl (.mv rfl) ?_
    refine .caseD 42 rfl (fun c42 => ?_) (fun c42 => ?_)
    · refine .skip rfl rfl ?_
      refine .skip rfl rfl ?_
      refine .skip rfl rfl ?_
      refine .p rfl rfl (.pickT rfl rfl) ?_
      refine .p rfl rfl (.mv rfl) ?_
      refine .skip rfl rfl ?_
      refine .skip rfl rfl ?_
      refine .skip rfl rfl ?_
      refine .p rfl rfl (.pickT rfl rfl) ?_
      refine .p rfl rfl (.mv rfl) ?_
      refine .skip rfl rfl ?_
      refine .skip rfl rfl ?_
      refine .skip rfl rfl ?_
      refine .p rfl rfl (.pickT rfl rfl) ?_
      refine .nil (.code (.keep [(56, _), (11, _), (5, _), (1, _), (2, _), (3, _), (4, _)] ⟨rfl, rfl, rfl, rfl, rfl, rfl, rfl, trivial⟩ (.condT rfl (.seq (.keep [(11, _)] ⟨rfl, trivial⟩ (.region ?_))))))
      refine .p rfl rfl (.mv rfl) ?_
      refine .p rfl rfl (.as rfl) ?_
      refine .nil (.code ?_)
      refine .ret _ rfl ?_
      exact ⟨rfl, (by repeat (first | exact Ext.refl _ | assumption | refine Ext.trans (by assumption) ?_))⟩
    · refine .p rfl rfl (.mv rfl) ?_
      refine .p rfl rfl (.len rfl rfl) ?_
      refine .p rfl rfl (.gt rfl rfl) ?_
      refine .p rfl rfl (.pickF rfl rfl) ?_
      refine .p rfl rfl (.mv rfl) ?_
      refine .caseD 47 rfl (fun c47 => ?_) (fun c47 => ?_)
      · refine .skip rfl rfl ?_
        refine .skip rfl rfl ?_
        refine .skip rfl rfl ?_
        refine .p rfl rfl (.pickT rfl rfl) ?_
        refine .p rfl rfl (.mv rfl) ?_
        refine .skip rfl rfl ?_
        refine .skip rfl rfl ?_
        refine .skip rfl rfl ?_
        refine .p rfl rfl (.pickT rfl rfl) ?_
        refine .nil (.code (.keep [(56, _), (11, _), (5, _), (1, _), (2, _), (3, _), (4, _)] ⟨rfl, rfl, rfl, rfl, rfl, rfl, rfl, trivial⟩ (.condT rfl (.seq (.keep [(11, _)] ⟨rfl, trivial⟩ (.region ?_))))))
        refine .p rfl rfl (.mv rfl) ?_
        refine .p rfl rfl (.as rfl) ?_
        refine .nil (.code ?_)
        refine .ret _ rfl ?_
        exact ⟨rfl, (by repeat (first | exact Ext.refl _ | assumption | refine Ext.trans (by assumption) ?_))⟩
      · refine .p rfl rfl (.mv rfl) ?_
        refine .p rfl rfl (.len rfl rfl) ?_
        refine .p rfl rfl (.gt rfl rfl) ?_
        refine .p rfl rfl (.pickF rfl rfl) ?_
        refine .p rfl rfl (.mv rfl) ?_
        refine .caseD 52 rfl (fun c52 => ?_) (fun c52 => ?_)
        · refine .skip rfl rfl ?_
          refine .skip rfl rfl ?_
          refine .skip rfl rfl ?_
          refine .p rfl rfl (.pickT rfl rfl) ?_
          refine .nil (.code (.keep [(56, _), (11, _), (5, _), (1, _), (2, _), (3, _), (4, _)] ⟨rfl, rfl, rfl, rfl, rfl, rfl, rfl, trivial⟩ (.condT rfl (.seq (.keep [(11, _)] ⟨rfl, trivial⟩ (.region ?_))))))
          refine .p rfl rfl (.mv rfl) ?_
          refine .p rfl rfl (.as rfl) ?_
          refine .nil (.code ?_)
          refine .ret _ rfl ?_
          exact ⟨rfl, (by repeat (first | exact Ext.refl _ | assumption | refine Ext.trans (by assumption) ?_))⟩
        · refine .p rfl rfl (.mv rfl) ?_
          refine .p rfl rfl (.len rfl rfl) ?_
          refine .p rfl rfl (.gt rfl rfl) ?_
          refine .p rfl rfl (.pickF rfl rfl) ?_
          refine .nil (.code (.keep [(56, _), (11, _), (5, _), (1, _), (2, _), (3, _), (4, _)] ⟨rfl, rfl, rfl, rfl, rfl, rfl, rfl, trivial⟩ ?_))
          refine .condD rfl (fun c56 => ?_) (fun c56 => ?_)
          · refine .seq (.keep [(11, _)] ⟨rfl, trivial⟩ (.region ?_))
            refine .p rfl rfl (.mv rfl) ?_
            refine .p rfl rfl (.as rfl) ?_
            refine .nil (.code ?_)
            refine .ret _ rfl ?_
            exact ⟨rfl, (by repeat (first | exact Ext.refl _ | assumption | refine Ext.trans (by assumption) ?_))⟩
          · refine .skip (.code (.seq (.keep [(11, _), (5, _), (1, _), (2, _), (3, _), (4, _)] ⟨rfl, rfl, rfl, rfl, rfl, rfl, trivial⟩ (.region ?_))))
            refine .p rfl rfl (.loadA (n := 3) rfl rfl rfl rfl rfl (B5.ext (S := fun _ => False) (by repeat (first | exact Ext.refl _ | assumption | refine Ext.trans (by assumption) ?_)) (fun x => x)).cells) ?_
            refine .call (first := []) (captured := []) rfl rfl rfl rfl (Records_fn (allOf (tDisk.ext0 R3 (by repeat (first | exact Ext.refl _ | assumption | refine Ext.trans (by assumption) ?_))))) ?_
            rintro _ w60 ⟨v60, rfl, R60, X60⟩
            have z60 := X60.size
            refine .p rfl rfl (.mv rfl) ?_
            refine .p rfl rfl (.extract rfl rfl) ?_
            refine .p rfl rfl (.extract rfl rfl) ?_
            refine .p rfl rfl (.as rfl) ?_
            refine .p rfl rfl (.as rfl) ?_
            refine .nil (.code (.seq (.keep [(13, _), (11, _), (5, _), (1, _), (2, _), (3, _), (4, _)] ⟨rfl, rfl, rfl, rfl, rfl, rfl, rfl, trivial⟩ (.region ?_))))
            refine .p rfl rfl (.loadA (n := 3) rfl rfl rfl rfl rfl (B5.ext (S := fun _ => False) (by repeat (first | exact Ext.refl _ | assumption | refine Ext.trans (by assumption) ?_)) (fun x => x)).cells) ?_
            refine .p rfl rfl (.mv rfl) ?_
            refine .call (first := []) (captured := []) rfl rfl rfl rfl (added_fn (fs := []) (allOf (tDisk.ext0 R3 (by repeat (first | exact Ext.refl _ | assumption | refine Ext.trans (by assumption) ?_)))) (allOf (tStrs.ext0 hlb (by repeat (first | exact Ext.refl _ | assumption | refine Ext.trans (by assumption) ?_)))) Sl.nil (by omega)) ?_
            rintro _ w66 ⟨v66, rfl, R66, X66⟩
            have z66 := X66.size
            obtain ⟨aa, ca, rfl, hca⟩ := Sl.val R66
            have hlA : (Sl tAct).rep (fun k => k < w66.heap.size) w66 _ (addL d (flagsAt [] 0 l)).1 := (Sl tAct).mono R66 (fun k _ h => h)
            refine .p rfl rfl (.mv rfl) ?_
            refine .p rfl rfl (.extract rfl rfl) ?_
            refine .p rfl rfl (.cast (.extract rfl rfl) (show _ = Value.bool (addL d (flagsAt [] 0 l)).2 from rfl)) ?_
            refine .p rfl rfl (.as rfl) ?_
            refine .p rfl rfl (.as rfl) ?_
            refine .nil (.code (.seq (.seq (.keep [(15, _), (14, _), (13, _), (11, _), (5, _), (2, _), (3, _), (4, _)] ⟨rfl, rfl, rfl, rfl, rfl, rfl, rfl, rfl, trivial⟩ (.region ?_)))))
            refine .p rfl rfl (.mv rfl) ?_
            refine .p rfl rfl (.ne rfl rfl) ?_
            refine .p rfl rfl (.mv rfl) ?_
            refine .caseD 71 rfl (fun c71 => ?_) (fun c71 => ?_)
            · refine .skip rfl rfl ?_
              refine .skip rfl rfl ?_
              refine .p rfl rfl (.pickT rfl rfl) ?_
              refine .p rfl rfl (.mv rfl) ?_
              refine .skip rfl rfl ?_
              refine .skip rfl rfl ?_
              refine .p rfl rfl (.pickT rfl rfl) ?_
              refine .p rfl rfl (.mv rfl) ?_
              refine .skip rfl rfl ?_
              refine .skip rfl rfl ?_
              refine .skip rfl rfl ?_
              refine .skip rfl rfl ?_
              refine .p rfl rfl (.pickT rfl rfl) ?_
              refine .nil (.code (.keep [(84, _), (14, _), (11, _), (5, _), (2, _), (3, _), (4, _)] ⟨rfl, rfl, rfl, rfl, rfl, rfl, rfl, trivial⟩ (.condT rfl (.seq (.keep [(11, _)] ⟨rfl, trivial⟩ (.region ?_))))))
              refine .p rfl rfl (.mv rfl) ?_
              refine .p rfl rfl (.as rfl) ?_
              refine .nil (.code ?_)
              refine .ret _ rfl ?_
              exact ⟨rfl, (by repeat (first | exact Ext.refl _ | assumption | refine Ext.trans (by assumption) ?_))⟩
            · refine .p rfl rfl (.mv rfl) ?_
              refine .p rfl rfl (.not rfl) ?_
              refine .p rfl rfl (.pickF rfl rfl) ?_
              refine .p rfl rfl (.mv rfl) ?_
              refine .case 75 rfl (fun c75 => ?_) (fun c75 => ?_)
              · refine .skip rfl rfl ?_
                refine .skip rfl rfl ?_
                refine .p rfl rfl (.pickT rfl rfl) ?_
                refine .p rfl rfl (.mv rfl) ?_
                refine .skip rfl rfl ?_
                refine .skip rfl rfl ?_
                refine .skip rfl rfl ?_
                refine .skip rfl rfl ?_
                refine .p rfl rfl (.pickT rfl rfl) ?_
                refine .nil (.code (.keep [(84, _), (14, _), (11, _), (5, _), (2, _), (3, _), (4, _)] ⟨rfl, rfl, rfl, rfl, rfl, rfl, rfl, trivial⟩ (.condT rfl (.seq (.keep [(11, _)] ⟨rfl, trivial⟩ (.region ?_))))))
                refine .p rfl rfl (.mv rfl) ?_
                refine .p rfl rfl (.as rfl) ?_
                refine .nil (.code ?_)
                refine .ret _ rfl ?_
                exact ⟨rfl, (by repeat (first | exact Ext.refl _ | assumption | refine Ext.trans (by assumption) ?_))⟩
              · refine .p rfl rfl (.mv rfl) ?_
                refine .p rfl rfl (.lt rfl rfl) ?_
                refine .p rfl rfl (.pickF rfl rfl) ?_
                refine .p rfl rfl (.mv rfl) ?_
                refine .caseD 79 rfl (fun c79 => ?_) (fun c79 => ?_)
                · refine .skip rfl rfl ?_
                  refine .skip rfl rfl ?_
                  refine .skip rfl rfl ?_
                  refine .skip rfl rfl ?_
                  refine .p rfl rfl (.pickT rfl rfl) ?_
                  refine .nil (.code (.keep [(84, _), (14, _), (11, _), (5, _), (2, _), (3, _), (4, _)] ⟨rfl, rfl, rfl, rfl, rfl, rfl, rfl, trivial⟩ (.condT rfl (.seq (.keep [(11, _)] ⟨rfl, trivial⟩ (.region ?_))))))
                  refine .p rfl rfl (.mv rfl) ?_
                  refine .p rfl rfl (.as rfl) ?_
                  refine .nil (.code ?_)
                  refine .ret _ rfl ?_
                  exact ⟨rfl, (by repeat (first | exact Ext.refl _ | assumption | refine Ext.trans (by assumption) ?_))⟩
                · refine .p rfl rfl (.mv rfl) ?_
                  refine .p rfl rfl (.mv rfl) ?_
                  refine .p rfl rfl (.len rfl rfl) ?_
                  refine .p rfl rfl (.gt rfl rfl) ?_
                  refine .p rfl rfl (.pickF rfl rfl) ?_
                  refine .nil (.code (.keep [(84, _), (14, _), (11, _), (5, _), (2, _), (3, _), (4, _)] ⟨rfl, rfl, rfl, rfl, rfl, rfl, rfl, trivial⟩ ?_))
                  refine .condD rfl (fun c84 => ?_) (fun c84 => ?_)
                  · refine .seq (.keep [(11, _)] ⟨rfl, trivial⟩ (.region ?_))
                    refine .p rfl rfl (.mv rfl) ?_
                    refine .p rfl rfl (.as rfl) ?_
                    refine .nil (.code ?_)
                    refine .ret _ rfl ?_
                    exact ⟨rfl, (by repeat (first | exact Ext.refl _ | assumption | refine Ext.trans (by assumption) ?_))⟩
                  · have hst : (stateF d).2 = 0 := Decidable.not_not.1 c71
                    have hA : (addL d (flagsAt [] 0 l)).2 = true := by simpa using c75
                    have hw0 : d.waits = [] := List.length_eq_zero_iff.1 (by omega)
                    obtain ⟨x', y, m, p1, p2, p3, p4, p5, p6, p7⟩ := lost' hst hA hw0 (by omega) (n := n.toNat) (by omega) ks
                    obtain ⟨a78, c78, hv78, hc78, R78⟩ := Sl.cutE hlA 0 n.toNat (by omega) (by omega)
                    simp only [Nat.sub_zero] at hv78 R78
                    refine .skip (.code (.seq (.keep [(14, _), (11, _), (5, _), (2, _), (3, _), (4, _)] ⟨rfl, rfl, rfl, rfl, rfl, rfl, trivial⟩ ?_)))
                    have B5w := B5.ext (S := fun _ => False) (w' := w66) (by repeat (first | exact Ext.refl _ | assumption | refine Ext.trans (by assumption) ?_)) (fun x => x)
                    refine .meet (S := Nat × Disk × Int × (Option Addr × Nat × Option Addr × Nat) × World) (fun s => [(2, i64 n), (3, .slice ak ks.length capk), (4, .slice am ms.length capm), (11, .bool true), (16, .pointer (some ⟨s.1, 0, none⟩)), (17, i64 s.2.2.1)]) (fun s => s.2.2.2.2) (fun s => Blk s.2.2.2.2 s.1 36 [i64 s.2.1.count, .slice s.2.2.2.1.1 s.2.1.data.length s.2.2.2.1.2.1, .slice s.2.2.2.1.2.2.1 s.2.1.waits.length s.2.2.2.1.2.2.2] ∧ tDisk.rep All s.2.2.2.2 (.agg #[i64 s.2.1.count, .slice s.2.2.2.1.1 s.2.1.data.length s.2.2.2.1.2.1, .slice s.2.2.2.1.2.2.1 s.2.1.waits.length s.2.2.2.1.2.2.2]) s.2.1 ∧ Ext (fun _ => False) w66 s.2.2.2.2 ∧ doF d (((addL d (flagsAt [] 0 l)).1.take n.toNat).drop 0) = (s.2.1, s.2.2.1) ∧ s.1 < s.2.2.2.2.heap.size) ?_ ?_
                    · rintro ⟨p, x, e, ⟨f1, g1, h1, i1⟩, wm⟩ ⟨Bm, Rm, Xm, hxe, hpl⟩
                      simp only at Bm Rm Xm hxe hpl
                      have zwm : w66.heap.size ≤ wm.heap.size := Xm.size
                      change A _ [(2, i64 n), (3, .slice ak ks.length capk), (4, .slice am ms.length capm), (11, .bool true), (16, .pointer (some ⟨p, 0, none⟩)), (17, i64 e)] _ wm
                      refine .code (.seq (.keep [(3, _), (4, _), (11, _), (16, _), (17, _)] ⟨rfl, rfl, rfl, rfl, rfl, trivial⟩ ?_))
                      rw [List.drop_zero] at hxe
                      obtain ⟨e1, e2⟩ := Prod.mk.inj (hxe.symm.trans p1)
                      subst e1
                      subst e2
                      refine .region ?_
                      refine .p rfl rfl (.loadA (n := 3) rfl rfl rfl rfl rfl (Bm.ext (S := fun _ => False) (by repeat (first | exact Ext.refl _ | assumption | refine Ext.trans (by assumption) ?_)) (fun x => x)).cells) ?_
                      refine .p rfl rfl (.mv rfl) ?_
                      refine .call (first := []) (captured := []) rfl rfl rfl rfl (Crash_fn (d := x) (ks := ks) (allOf (tDisk.ext0 Rm (by repeat (first | exact Ext.refl _ | assumption | refine Ext.trans (by assumption) ?_)))) (allOf ((Sl tBool).ext0 hkb (by repeat (first | exact Ext.refl _ | assumption | refine Ext.trans (by assumption) ?_))))) ?_
                      rintro _ w85 ⟨v85, rfl, D85, X85⟩
                      have z85 := X85.size
                      rw [p2] at D85 ⊢
                      obtain ⟨x1, y1, x2, y2, rfl⟩ := D85.val
                      have Ry := tDisk.mono D85.rep (P' := fun k => k < w85.heap.size) (fun k _ h => h)
                      refine .p rfl rfl (.mv rfl) ?_
                      refine .p rfl rfl (.extract rfl rfl) ?_
                      refine .p rfl rfl (.extract rfl rfl) ?_
                      refine .v rfl rfl (.alloc rfl rfl) ?_
                      rintro _ wn18 ⟨rfl, N18⟩
                      refine .s rfl (.storeAll (n := 3) rfl rfl rfl rfl rfl N18.blk rfl) ?_
                      intro w18 P18
                      have X18 := N18.ext.then P18.ext (by rintro k rfl _; exact Nat.le_refl _)
                      have z18 := X18.size
                      have B18 := P18.blk
                      have l18 := B18.lt
                      clear N18 P18
                      refine .p rfl rfl (.as rfl) ?_
                      refine .nil (.code (.seq (.seq (.keep [(19, _), (18, _), (3, _), (4, _), (11, _), (17, _)] ⟨rfl, rfl, rfl, rfl, rfl, rfl, trivial⟩ (.region ?_)))))
                      refine .p rfl rfl (.mv rfl) ?_
                      refine .p rfl rfl (.no (.ne rfl rfl) (fun h => h rfl)) ?_
                      refine .p rfl rfl (.mv rfl) ?_
                      refine .p rfl rfl (.mv rfl) ?_
                      refine .p rfl rfl (.no (.ne rfl rfl) (fun h => h rfl)) ?_
                      refine .p rfl rfl (.pickF rfl rfl) ?_
                      refine .nil (.code (.keep [(105, _), (18, _), (3, _), (4, _), (11, _)] ⟨rfl, rfl, rfl, rfl, rfl, trivial⟩ (.condF rfl (.skip (.code (.seq (.keep [(18, _), (3, _), (4, _), (11, _)] ⟨rfl, rfl, rfl, rfl, trivial⟩ (.region ?_))))))))
                      refine .p rfl rfl (.loadA (n := 3) rfl rfl rfl rfl rfl (B18.ext (S := fun _ => False) (by repeat (first | exact Ext.refl _ | assumption | refine Ext.trans (by assumption) ?_)) (fun x => x)).cells) ?_
                      refine .call (first := []) (captured := []) rfl rfl rfl rfl (Records_fn (d := y) (allOf (tDisk.ext0 Ry (by repeat (first | exact Ext.refl _ | assumption | refine Ext.trans (by assumption) ?_))))) ?_
                      rintro _ w96 ⟨v96, rfl, R96, X96⟩
                      have z96 := X96.size
                      have R96 := tStrs.mono R96 (P' := fun k => k < w96.heap.size) (fun k _ h => h)
                      obtain ⟨a96, c96, rfl, _⟩ := Sl.val R96
                      refine .p rfl rfl (.mv rfl) ?_
                      refine .p rfl rfl (.extract rfl rfl) ?_
                      refine .p rfl rfl (.extract rfl rfl) ?_
                      refine .p rfl rfl (.as rfl) ?_
                      refine .p rfl rfl (.as rfl) ?_
                      refine .nil (.code (.seq (.keep [(21, _), (20, _), (18, _), (3, _), (4, _), (11, _)] ⟨rfl, rfl, rfl, rfl, rfl, rfl, trivial⟩ (.region ?_))))
                      refine .p rfl rfl (.loadA (n := 3) rfl rfl rfl rfl rfl (B18.ext (S := fun _ => False) (by repeat (first | exact Ext.refl _ | assumption | refine Ext.trans (by assumption) ?_)) (fun x => x)).cells) ?_
                      refine .p rfl rfl (.mv rfl) ?_
                      refine .call (first := []) (captured := []) rfl rfl rfl rfl (added_fn (d := y) (l := ms) (fs := []) (allOf (tDisk.ext0 Ry (by repeat (first | exact Ext.refl _ | assumption | refine Ext.trans (by assumption) ?_)))) (allOf (tStrs.ext0 hmb (by repeat (first | exact Ext.refl _ | assumption | refine Ext.trans (by assumption) ?_)))) Sl.nil (by omega)) ?_
                      rintro _ w114 ⟨v114, rfl, R114, X114⟩
                      have z114 := X114.size
                      obtain ⟨ba, cb, rfl, hcb⟩ := Sl.val R114
                      have hlB := Sl.lim R114
                      simp only [Lim] at hlB
                      refine .p rfl rfl (.mv rfl) ?_
                      refine .p rfl rfl (.extract rfl rfl) ?_
                      refine .p rfl rfl (.cast (.extract rfl rfl) (show _ = Value.bool (addL y (flagsAt [] 0 ms)).2 from rfl)) ?_
                      refine .p rfl rfl (.as rfl) ?_
                      refine .p rfl rfl (.as rfl) ?_
                      refine .nil (.code (.seq (.seq (.keep [(23, _), (22, _), (21, _), (20, _), (18, _), (3, _), (4, _), (11, _)] ⟨rfl, rfl, rfl, rfl, rfl, rfl, rfl, rfl, trivial⟩ (.region ?_)))))
                      refine .p rfl rfl (.mv rfl) ?_
                      refine .p rfl rfl (.no (.ne rfl rfl) (fun h => h p4)) ?_
                      refine .p rfl rfl (.mv rfl) ?_
                      refine .p rfl rfl (.mv rfl) ?_
                      refine .p rfl rfl (.not rfl) ?_
                      refine .p rfl rfl (.pickF rfl rfl) ?_
                      refine .nil (.code (.keep [(122, _), (22, _), (21, _), (20, _), (18, _), (3, _), (4, _), (11, _)] ⟨rfl, rfl, rfl, rfl, rfl, rfl, rfl, rfl, trivial⟩ ?_))
                      refine .cond rfl (fun c122 => ?_) (fun c122 => ?_)
                      · refine .seq (.keep [(21, _), (11, _)] ⟨rfl, rfl, trivial⟩ (.region ?_))
                        refine .p rfl rfl (.mv rfl) ?_
                        refine .p rfl rfl (.mv rfl) ?_
                        refine .p rfl rfl (.mv rfl) ?_
                        refine .p rfl rfl (.yes (.eq rfl rfl) (p4)) ?_
                        refine .p rfl rfl (.pickT rfl rfl) ?_
                        refine .p rfl rfl (.as rfl) ?_
                        refine .nil (.code ?_)
                        refine .ret _ rfl ?_
                        exact ⟨rfl, (by repeat (first | exact Ext.refl _ | assumption | refine Ext.trans (by assumption) ?_))⟩
                      · have hA2 : (addL y (flagsAt [] 0 ms)).2 = true := by simpa using c122
                        refine .skip (.code (.seq (.seq (.keep [(22, _), (20, _), (18, _), (3, _), (4, _), (11, _)] ⟨rfl, rfl, rfl, rfl, rfl, rfl, trivial⟩ (.region ?_)))))
                        refine .p rfl rfl (.as rfl) ?_
                        refine .nil (.code (.block ?_))
                        refine .loop (S := Nat × World) (fun s => [(3, .slice ak ks.length capk), (4, .slice am ms.length capm), (11, .bool true), (18, .pointer (some ⟨w85.heap.size, 0, none⟩)), (20, .slice a96 (stateF y).1.recs.length c96), (22, .slice ba (addL y (flagsAt [] 0 ms)).1.length cb), (24, i64 s.1)]) (fun s => s.2) (fun s => s.1 ≤ (addL y (flagsAt [] 0 ms)).1.length + 1 ∧ Ext (fun _ => False) w114 s.2) (fun s => (addL y (flagsAt [] 0 ms)).1.length + 1 - s.1) (0, w114) ⟨rfl, rfl, rfl, rfl, rfl, rfl, rfl, trivial⟩ rfl ⟨Nat.zero_le _, .refl _⟩ ?_
                        rintro ⟨i, wi⟩ J ⟨hi', hX⟩ again
                        simp only at hi' hX
                        have zi := hX.size
                        have hXv : Ext (fun _ => False) w18 wi := (by repeat (first | exact Ext.refl _ | assumption | refine Ext.trans (by assumption) ?_))
                        have hXy : Ext (fun _ => False) w85 wi := (by repeat (first | exact Ext.refl _ | assumption | refine Ext.trans (by assumption) ?_))
                        have hXr : Ext (fun _ => False) w96 wi := (by repeat (first | exact Ext.refl _ | assumption | refine Ext.trans (by assumption) ?_))
                        have hXm : Ext (fun _ => False) w wi := (by repeat (first | exact Ext.refl _ | assumption | refine Ext.trans (by assumption) ?_))
                        change G _ [(3, .slice ak ks.length capk), (4, .slice am ms.length capm), (11, .bool true), (18, .pointer (some ⟨w85.heap.size, 0, none⟩)), (20, .slice a96 (stateF y).1.recs.length c96), (22, .slice ba (addL y (flagsAt [] 0 ms)).1.length cb), (24, i64 i)] _ _ wi
                        refine .seq (.seq (.region ?_))
                        refine .p rfl rfl (.mv rfl) ?_
                        refine .p rfl rfl (.mv rfl) ?_
                        refine .p rfl rfl (.len rfl rfl) ?_
                        refine .p rfl rfl (.le rfl rfl) ?_
                        refine .nil (.code (.keep [(131, _), (3, _), (4, _), (11, _), (18, _), (20, _), (22, _), (24, _)] ⟨rfl, rfl, rfl, rfl, rfl, rfl, rfl, rfl, trivial⟩ ?_))
                        refine .condD rfl (fun c131 => ?_) (fun c131 => ?_)
                        · have hi : i ≤ (addL y (flagsAt [] 0 ms)).1.length := by omega
                          have B18i := B18.ext (S := fun _ => False) (w' := wi) hXv (fun x => x)
                          have Ryi := tDisk.ext0 Ry hXy
                          have hmi := tStrs.ext0 hmb hXm
                          have R96i := tStrs.ext0 R96 hXr
                          have hki := (Sl tBool).ext0 hkb hXm
                          obtain ⟨a138, c138, hv138, hc138, R138⟩ := Sl.cutE ((Sl tAct).ext0 ((Sl tAct).mono R114 (P' := fun k => k < w114.heap.size) (fun k _ h => h)) hX) 0 i (by omega) (by omega)
                          simp only [Nat.sub_zero] at hv138 R138
                          obtain ⟨x3', zz, m2, k1, k2, k3, k4, k5, k6, k7⟩ := lost' p4 hA2 p3 (by omega) (n := i) hi ks
                          refine .skip (.code (.seq (.block (.seq (.keep [(3, _), (4, _), (11, _), (18, _), (20, _), (22, _), (24, _)] ⟨rfl, rfl, rfl, rfl, rfl, rfl, rfl, trivial⟩ ?_)))))
                          refine .meet (S := Nat × Disk × Int × (Option Addr × Nat × Option Addr × Nat) × World) (fun s => [(3, .slice ak ks.length capk), (4, .slice am ms.length capm), (11, .bool true), (18, .pointer (some ⟨w85.heap.size, 0, none⟩)), (20, .slice a96 (stateF y).1.recs.length c96), (22, .slice ba (addL y (flagsAt [] 0 ms)).1.length cb), (24, i64 i), (25, .pointer (some ⟨s.1, 0, none⟩)), (26, i64 s.2.2.1)]) (fun s => s.2.2.2.2) (fun s => Blk s.2.2.2.2 s.1 36 [i64 s.2.1.count, .slice s.2.2.2.1.1 s.2.1.data.length s.2.2.2.1.2.1, .slice s.2.2.2.1.2.2.1 s.2.1.waits.length s.2.2.2.1.2.2.2] ∧ tDisk.rep All s.2.2.2.2 (.agg #[i64 s.2.1.count, .slice s.2.2.2.1.1 s.2.1.data.length s.2.2.2.1.2.1, .slice s.2.2.2.1.2.2.1 s.2.1.waits.length s.2.2.2.1.2.2.2]) s.2.1 ∧ Ext (fun _ => False) wi s.2.2.2.2 ∧ (wi.heap.size ≤ s.1 ∧ doF y (((addL y (flagsAt [] 0 ms)).1.take i).drop 0) = (s.2.1, s.2.2.1)) ∧ s.1 < s.2.2.2.2.heap.size) ?_ ?_
                          · rintro ⟨q, x3, e3, ⟨f3, g3, h3, i3⟩, wn⟩ ⟨Bn, Rn, Xn, hye, hql⟩
                            simp only at Bn Rn Xn hye hql
                            have zwn : wi.heap.size ≤ wn.heap.size := Xn.size
                            change A _ [(3, .slice ak ks.length capk), (4, .slice am ms.length capm), (11, .bool true), (18, .pointer (some ⟨w85.heap.size, 0, none⟩)), (20, .slice a96 (stateF y).1.recs.length c96), (22, .slice ba (addL y (flagsAt [] 0 ms)).1.length cb), (24, i64 i), (25, .pointer (some ⟨q, 0, none⟩)), (26, i64 e3)] _ wn
                            refine .code (.seq ?_)
                            obtain ⟨hpq, hye⟩ := hye
                            rw [List.drop_zero] at hye
                            obtain ⟨e1, e2⟩ := Prod.mk.inj (hye.symm.trans k1)
                            subst e1
                            subst e2
                            refine .region ?_
                            refine .p rfl rfl (.loadA (n := 3) rfl rfl rfl rfl rfl (Bn.ext (S := fun _ => False) (by repeat (first | exact Ext.refl _ | assumption | refine Ext.trans (by assumption) ?_)) (fun x => x)).cells) ?_
                            refine .p rfl rfl (.mv rfl) ?_
                            refine .call (first := []) (captured := []) rfl rfl rfl rfl (Crash_fn (d := x3) (ks := ks) (allOf (tDisk.ext0 Rn (by repeat (first | exact Ext.refl _ | assumption | refine Ext.trans (by assumption) ?_)))) (allOf ((Sl tBool).ext0 ((Sl tBool).ext0 hkb (by assumption)) (by repeat (first | exact Ext.refl _ | assumption | refine Ext.trans (by assumption) ?_))))) ?_
                            rintro _ w145 ⟨v145, rfl, D145, X145⟩
                            have z145 := X145.size
                            rw [k2] at D145 ⊢
                            obtain ⟨g1, g2, g3, g4, rfl⟩ := D145.val
                            refine .p rfl rfl (.mv rfl) ?_
                            refine .p rfl rfl (.extract rfl rfl) ?_
                            refine .p rfl rfl (.extract rfl rfl) ?_
                            refine .s rfl (.storeAll (n := 3) rfl rfl rfl rfl rfl (Bn.ext (S := fun _ => False) (by repeat (first | exact Ext.refl _ | assumption | refine Ext.trans (by assumption) ?_)) (fun x => x)) rfl) ?_
                            intro w146 P146
                            have z146 := P146.size
                            have B146 := P146.blk
                            have Y146 : Ext (fun _ => False) wi w146 := (Xn.trans X145).then P146.ext (by rintro k rfl _; exact hpq)
                            have R145 := tDisk.ext D145.rep P146.ext (fun k hk _ he => by have he : k = q := he; have hk : wn.heap.size ≤ k := hk; omega)
                            clear Xn X145
                            refine .p rfl rfl (.as rfl) ?_
                            refine .nil (.code (.seq (.keep [(27, _), (3, _), (4, _), (11, _), (18, _), (20, _), (22, _), (24, _), (25, _), (26, _)] ⟨rfl, rfl, rfl, rfl, rfl, rfl, rfl, rfl, rfl, rfl, trivial⟩ (.region ?_))))
                            refine .p rfl rfl (.loadA (n := 3) rfl rfl rfl rfl rfl (B146.ext (S := fun _ => False) (by repeat (first | exact Ext.refl _ | assumption | refine Ext.trans (by assumption) ?_)) (fun x => x)).cells) ?_
                            refine .call (first := []) (captured := []) rfl rfl rfl rfl (Records_fn (d := zz) (allOf R145)) ?_
                            rintro _ w150 ⟨v150, rfl, R150, X150⟩
                            have z150 := X150.size
                            have hnl : (stateF zz).1.recs.length = (stateF y).1.recs.length + m2 := by rw [k6, List.length_append, List.length_take, Nat.min_eq_left k5]
                            obtain ⟨a150, c150, rfl, _⟩ := Sl.val R150
                            refine .p rfl rfl (.mv rfl) ?_
                            refine .p rfl rfl (.extract rfl rfl) ?_
                            refine .p rfl rfl (.extract rfl rfl) ?_
                            refine .p rfl rfl (.as rfl) ?_
                            refine .p rfl rfl (.as rfl) ?_
                            refine .nil (.code (.seq (.keep [(29, _), (28, _), (27, _), (3, _), (4, _), (11, _), (18, _), (20, _), (22, _), (24, _), (26, _)] ⟨rfl, rfl, rfl, rfl, rfl, rfl, rfl, rfl, rfl, rfl, rfl, trivial⟩ (.region ?_))))
                            refine .p rfl rfl (.mv rfl) ?_
                            refine .v rfl rfl (.append (t := tStr) (Q := fun _ => False) (b := w150.heap.size) (eb := 16) rfl Own.nil rfl (Sl.holds (allOf (tStrs.ext0 R96i (by repeat (first | exact Ext.refl _ | assumption | refine Ext.trans (by assumption) ?_)))) (fun _ _ h => h)) rfl rfl rfl rfl rfl rfl rfl (by have := (state_at y).2; have := (state_at y).1; simp; omega) (by have := (state_at y).2; have := (state_at y).1; simp [Lim]; omega) (fun _ h _ => h.elim)) ?_
                            rintro v154 w154 ⟨b154, O154, X154, hb154⟩
                            have O154 := O154.mono (Q' := fun _ => False) (fun _ h _ => h.1)
                            have Y154 : Ext (fun _ => False) w150 w154 := X154.mono (fun k hk he => by have he : k = w150.heap.size := he; omega)
                            clear X154
                            have hb154 : b154 = w150.heap.size := hb154.elim id id
                            refine .p rfl rfl (.mv rfl) ?_
                            refine .v rfl rfl (.append (t := tStr) (Q := fun _ => False) (eb := 16) rfl O154 rfl (Sl.holds (allOf (tStrs.ext0 hmi (by repeat (first | exact Ext.refl _ | assumption | refine Ext.trans (by assumption) ?_)))) (fun _ _ h => h)) rfl rfl rfl rfl rfl rfl rfl (by have := (state_at y).2; have := (state_at y).1; simp; omega) (by have := (state_at y).2; have := (state_at y).1; simp [Lim]; omega) (fun _ h _ => h.elim)) ?_
                            rintro v156 w156 ⟨b156, O156, X156, hb156⟩
                            have Y156 : Ext (fun _ => False) w150 w156 := Y154.then X156 (by rintro k rfl _; omega)
                            clear X156 Y154
                            have R156 : tStrs.rep All w156 v156 ((stateF y).1.recs ++ ms) := O156.rep trivial (fun _ _ _ => trivial)
                            have ht156 : ((stateF y).1.recs ++ ms).length = (stateF y).1.recs.length + ms.length := by simp
                            obtain ⟨a156, c156, rfl, hc156⟩ := Sl.val R156
                            have R186 := Sl.cut R156 0 (stateF zz).1.recs.length (by omega) (by omega)
                            have e186 : (((stateF y).1.recs ++ ms).take (stateF zz).1.recs.length).drop 0 = (stateF zz).1.recs := by
                              rw [List.drop_zero, hnl, k6, List.take_append, List.take_of_length_le (by omega), Nat.add_sub_cancel_left]
                            rw [e186] at R186
                            refine .p rfl rfl (.as rfl) ?_
                            refine .nil (.code (.seq (.keep [(30, _), (29, _), (28, _), (27, _), (3, _), (4, _), (11, _), (18, _), (20, _), (22, _), (24, _), (26, _)] ⟨rfl, rfl, rfl, rfl, rfl, rfl, rfl, rfl, rfl, rfl, rfl, rfl, trivial⟩ (.region ?_))))
                            refine .p rfl rfl (.mv rfl) ?_
                            refine .p rfl rfl (.no (.ne rfl rfl) (fun h => h rfl)) ?_
                            refine .p rfl rfl (.mv rfl) ?_
                            refine .p rfl rfl (.mv rfl) ?_
                            refine .p rfl rfl (.no (.ne rfl rfl) (fun h => h rfl)) ?_
                            refine .p rfl rfl (.pickF rfl rfl) ?_
                            refine .p rfl rfl (.mv rfl) ?_
                            refine .p rfl rfl (.mv rfl) ?_
                            refine .p rfl rfl (.no (.ne rfl rfl) (fun h => h k4)) ?_
                            refine .p rfl rfl (.pickF rfl rfl) ?_
                            refine .p rfl rfl (.mv rfl) ?_
                            refine .p rfl rfl (.mv rfl) ?_
                            refine .p rfl rfl (.len rfl rfl) ?_
                            refine .p rfl rfl (.mv rfl) ?_
                            refine .p rfl rfl (.len rfl rfl) ?_
                            refine .p rfl rfl (.no (.lt rfl rfl) (by rw [hnl]; omega)) ?_
                            refine .p rfl rfl (.pickF rfl rfl) ?_
                            refine .p rfl rfl (.mv rfl) ?_
                            refine .p rfl rfl (.mv rfl) ?_
                            refine .p rfl rfl (.len rfl rfl) ?_
                            refine .p rfl rfl (.mv rfl) ?_
                            refine .p rfl rfl (.len rfl rfl) ?_
                            refine .p rfl rfl (.no (.gt rfl rfl) (by rw [hnl]; omega)) ?_
                            refine .p rfl rfl (.pickF rfl rfl) ?_
                            refine .p rfl rfl (.mv rfl) ?_
                            refine .p rfl rfl (.mv rfl) ?_
                            refine .p rfl rfl (.mv rfl) ?_
                            refine .p rfl rfl (.mv rfl) ?_
                            refine .p rfl rfl (.len rfl rfl) ?_
                            refine .p rfl rfl (.cutHi (s := 1) rfl rfl rfl rfl (by omega)) ?_
                            refine .call (first := []) (captured := []) rfl rfl rfl rfl (textsT_fn (allOf (tStrs.ext0 R150 (by repeat (first | exact Ext.refl _ | assumption | refine Ext.trans (by assumption) ?_)))) (allOf R186)) ?_
                            rintro _ w187 ⟨rfl, X187⟩
                            have z187 := X187.size
                            refine .p rfl rfl (.not rfl) ?_
                            refine .p rfl rfl (.pickF rfl rfl) ?_
                            refine .nil (.code (.keep [(189, _), (3, _), (4, _), (11, _), (18, _), (20, _), (22, _), (24, _)] ⟨rfl, rfl, rfl, rfl, rfl, rfl, rfl, rfl, trivial⟩ (.condF rfl (.skip (.blk (.code (.keep [(3, _), (4, _), (11, _), (18, _), (20, _), (22, _), (24, _)] ⟨rfl, rfl, rfl, rfl, rfl, rfl, rfl, trivial⟩ (.region ?_))))))))
                            refine .p rfl rfl (.mv rfl) ?_
                            refine .p rfl rfl (.add rfl rfl (by omega)) ?_
                            refine .p rfl rfl (.as rfl) ?_
                            refine .nil ?_
                            exact (again (i + 1, w187) ⟨by show i + 1 ≤ _; omega, hX.trans (Y146.trans (X150.trans (Y156.trans X187)))⟩ (by show _ - (i + 1) < _ - i; omega)).of ⟨rfl, rfl, rfl, rfl, rfl, rfl, rfl, trivial⟩
                          · intro meet
                            refine .tree (fun k => wi.heap.size ≤ k) [4, 8, 9] (.op 0 (.op 1 (.op 2 (.op 3 (.alt 4 (.op 4 (.op 5 (.op 6 (.op 7 (.alt 8 (.op 8 (.alt 9 (.op 9 (.op 10 (.nil))) (.stop))) (.stop)))))) (.alt 8 (.op 8 (.alt 4 (.op 4 (.op 5 (.op 6 (.op 7 (.alt 9 (.op 9 (.op 10 (.nil))) (.stop)))))) (.stop))) (.stop))))))) (by kernel_rfl) (by kernel_rfl) (by kernel_rfl) ?_
                            refine .p rfl rfl rfl rfl (fun wx hx => .loadA (n := 3) rfl rfl rfl rfl rfl (B18i.ext hx (by show ¬ (wi.heap.size ≤ _); omega)).cells) ?_
                            refine .p rfl rfl rfl rfl (fun wx hx => .mv rfl) ?_
                            refine .p rfl rfl rfl rfl (fun wx hx => .mv rfl) ?_
                            refine .p rfl rfl rfl rfl (fun wx hx => .cast (.cutHi (s := 3) rfl rfl rfl rfl (by omega)) hv138) ?_
                            refine .alt ?_ ?_
                            · refine .call (first := []) (captured := []) rfl rfl rfl rfl rfl rfl (DoE_fn (d := y) (l := ((addL y (flagsAt [] 0 ms)).1.take i).drop 0) (allOf (tDisk.ext Ryi (Ext.refl _) (by intro k hk _ he; have hk : k < w85.heap.size := hk; have he : wi.heap.size ≤ k := he; omega))) (allOf ((Sl tAct).ext (R138) (Ext.refl _) (by intro k hk _ he; have he : wi.heap.size ≤ k := he; omega)))) (by rintro _ _ ⟨_, _, _, _, _, _, hx⟩; exact (Ext.refl _).trans (hx.mono (fun _ _ h => h.elim))) ?_
                              rintro _ w139 ⟨v139, x139, e139, hx139, rfl, R139, X139⟩
                              have z139 := X139.size
                              obtain ⟨f139, g139, p139, q139, rfl⟩ := disk_shape R139
                              have hX139 : Ext (fun k => wi.heap.size ≤ k) _ _ := (Ext.refl _).trans (X139.mono (fun _ _ h => h.elim))
                              refine .p rfl rfl rfl rfl (fun wx hx => .mv rfl) ?_
                              refine .p rfl rfl rfl rfl (fun wx hx => .extract rfl rfl) ?_
                              refine .p rfl rfl rfl rfl (fun wx hx => .extract rfl rfl) ?_
                              refine .alt ?_ ?_
                              · refine .v rfl rfl rfl rfl (.alloc rfl rfl) (by rintro _ _ ⟨_, hN⟩; exact hX139.trans hN.ext0) ?_
                                rintro _ wa25 ⟨rfl, N25⟩
                                have z25 := N25.size
                                have hX25 : Ext (fun k => wi.heap.size ≤ k) _ _ := hX139.trans (N25.ext0)
                                refine .alt ?_ ?_
                                · refine .s rfl rfl rfl (.storeAll (n := 3) (E := 36) (cs := [i64 0, .slice none 0 0, .slice none 0 0]) rfl rfl rfl rfl rfl (by first | exact N25.blk | exact N25.blk.ext X139 (fun x => x)) rfl) (by intro wz hP; exact hX25.trans (hP.ext.mono (by rintro k _ rfl; show wi.heap.size ≤ _; omega))) ?_
                                  intro wb25 P25
                                  have hXs9 : Ext (fun k => wi.heap.size ≤ k) _ _ := hX25.trans (P25.ext.mono (by rintro k _ rfl; show wi.heap.size ≤ _; omega))
                                  refine .p rfl rfl rfl rfl (fun wx hx => .as rfl) ?_
                                  refine .nil ?_
                                  have zb := P25.size
                                  exact (meet (w139.heap.size, x139, e139, (f139, g139, p139, q139), wb25) ⟨P25.blk, allOf (tDisk.ext (tDisk.ext0 R139 N25.ext) P25.ext (fun k hk _ he => by have he : k = w139.heap.size := he; omega)), (Ext.refl wi).then hXs9 (fun k hk _ => hk), ⟨by first | exact Nat.le_refl _ | (show wi.heap.size ≤ w139.heap.size; omega), hx139⟩, by show w139.heap.size < wb25.heap.size; omega⟩).of ⟨rfl, rfl, rfl, rfl, rfl, rfl, rfl, rfl, rfl, trivial⟩
                                exact .stop
                              exact .stop
                            refine .alt ?_ ?_
                            · refine .v rfl rfl rfl rfl (.alloc rfl rfl) (by rintro _ _ ⟨_, hN⟩; exact (Ext.refl _).trans hN.ext0) ?_
                              rintro _ wa25 ⟨rfl, N25⟩
                              have z25 := N25.size
                              have hX25 : Ext (fun k => wi.heap.size ≤ k) _ _ := (Ext.refl _).trans (N25.ext0)
                              refine .alt ?_ ?_
                              · refine .call (first := []) (captured := []) rfl rfl rfl rfl rfl rfl (DoE_fn (d := y) (l := ((addL y (flagsAt [] 0 ms)).1.take i).drop 0) (allOf (tDisk.ext Ryi hX25 (by intro k hk _ he; have hk : k < w85.heap.size := hk; have he : wi.heap.size ≤ k := he; omega))) (allOf ((Sl tAct).ext (R138) hX25 (by intro k hk _ he; have he : wi.heap.size ≤ k := he; omega)))) (by rintro _ _ ⟨_, _, _, _, _, _, hx⟩; exact hX25.trans (hx.mono (fun _ _ h => h.elim))) ?_
                                rintro _ w139 ⟨v139, x139, e139, hx139, rfl, R139, X139⟩
                                have z139 := X139.size
                                obtain ⟨f139, g139, p139, q139, rfl⟩ := disk_shape R139
                                have hX139 : Ext (fun k => wi.heap.size ≤ k) _ _ := hX25.trans (X139.mono (fun _ _ h => h.elim))
                                refine .p rfl rfl rfl rfl (fun wx hx => .mv rfl) ?_
                                refine .p rfl rfl rfl rfl (fun wx hx => .extract rfl rfl) ?_
                                refine .p rfl rfl rfl rfl (fun wx hx => .extract rfl rfl) ?_
                                refine .alt ?_ ?_
                                · refine .s rfl rfl rfl (.storeAll (n := 3) (E := 36) (cs := [i64 0, .slice none 0 0, .slice none 0 0]) rfl rfl rfl rfl rfl (by first | exact N25.blk | exact N25.blk.ext X139 (fun x => x)) rfl) (by intro wz hP; exact hX139.trans (hP.ext.mono (by rintro k _ rfl; show wi.heap.size ≤ _; omega))) ?_
                                  intro wb25 P25
                                  have hXs9 : Ext (fun k => wi.heap.size ≤ k) _ _ := hX139.trans (P25.ext.mono (by rintro k _ rfl; show wi.heap.size ≤ _; omega))
                                  refine .p rfl rfl rfl rfl (fun wx hx => .as rfl) ?_
                                  refine .nil ?_
                                  have zb := P25.size
                                  exact (meet (wi.heap.size, x139, e139, (f139, g139, p139, q139), wb25) ⟨P25.blk, allOf (tDisk.ext (R139) P25.ext (fun k hk _ he => by have he : k = wi.heap.size := he; omega)), (Ext.refl wi).then hXs9 (fun k hk _ => hk), ⟨by first | exact Nat.le_refl _ | (show wi.heap.size ≤ w139.heap.size; omega), hx139⟩, by show wi.heap.size < wb25.heap.size; omega⟩).of ⟨rfl, rfl, rfl, rfl, rfl, rfl, rfl, rfl, rfl, trivial⟩
                                exact .stop
                              exact .stop
                            exact .stop
                        · refine .exit rfl (.code (.seq (.keep [(11, _)] ⟨rfl, trivial⟩ (.region ?_))))
                          refine .p rfl rfl (.mv rfl) ?_
                          refine .p rfl rfl (.as rfl) ?_
                          refine .nil (.code ?_)
                          refine .ret _ rfl ?_
                          exact ⟨rfl, (by repeat (first | exact Ext.refl _ | assumption | refine Ext.trans (by assumption) ?_))⟩
                    · intro meet
                      refine .tree (fun k => w66.heap.size ≤ k) [4, 8, 9] (.op 0 (.op 1 (.op 2 (.op 3 (.alt 4 (.op 4 (.op 5 (.op 6 (.op 7 (.alt 8 (.op 8 (.alt 9 (.op 9 (.op 10 (.nil))) (.stop))) (.stop)))))) (.alt 8 (.op 8 (.alt 4 (.op 4 (.op 5 (.op 6 (.op 7 (.alt 9 (.op 9 (.op 10 (.nil))) (.stop)))))) (.stop))) (.stop))))))) (by kernel_rfl) (by kernel_rfl) (by kernel_rfl) ?_
                      refine .p rfl rfl rfl rfl (fun wx hx => .loadA (n := 3) rfl rfl rfl rfl rfl (B5w.ext hx (by show ¬ (w66.heap.size ≤ _); omega)).cells) ?_
                      refine .p rfl rfl rfl rfl (fun wx hx => .mv rfl) ?_
                      refine .p rfl rfl rfl rfl (fun wx hx => .mv rfl) ?_
                      refine .p rfl rfl rfl rfl (fun wx hx => .cast (.cutHi (s := 3) rfl rfl rfl rfl (by omega)) hv78) ?_
                      refine .alt ?_ ?_
                      · refine .call (first := []) (captured := []) rfl rfl rfl rfl rfl rfl (DoE_fn (d := d) (l := ((addL d (flagsAt [] 0 l)).1.take n.toNat).drop 0) (allOf (tDisk.ext (tDisk.ext0 R3 (by repeat (first | exact Ext.refl _ | assumption | refine Ext.trans (by assumption) ?_))) (Ext.refl _) (by intro k hk _ he; have he : w66.heap.size ≤ k := he; omega))) (allOf ((Sl tAct).ext ((Sl tAct).ext0 R78 (by repeat (first | exact Ext.refl _ | assumption | refine Ext.trans (by assumption) ?_))) (Ext.refl _) (by intro k hk _ he; have he : w66.heap.size ≤ k := he; omega)))) (by rintro _ _ ⟨_, _, _, _, _, _, hx⟩; exact (Ext.refl _).trans (hx.mono (fun _ _ h => h.elim))) ?_
                        rintro _ w91 ⟨v91, x91, e91, hx91, rfl, R91, X91⟩
                        have z91 := X91.size
                        obtain ⟨f91, g91, p91, q91, rfl⟩ := disk_shape R91
                        have hX91 : Ext (fun k => w66.heap.size ≤ k) _ _ := (Ext.refl _).trans (X91.mono (fun _ _ h => h.elim))
                        refine .p rfl rfl rfl rfl (fun wx hx => .mv rfl) ?_
                        refine .p rfl rfl rfl rfl (fun wx hx => .extract rfl rfl) ?_
                        refine .p rfl rfl rfl rfl (fun wx hx => .extract rfl rfl) ?_
                        refine .alt ?_ ?_
                        · refine .v rfl rfl rfl rfl (.alloc rfl rfl) (by rintro _ _ ⟨_, hN⟩; exact hX91.trans hN.ext0) ?_
                          rintro _ wa16 ⟨rfl, N16⟩
                          have z16 := N16.size
                          have hX16 : Ext (fun k => w66.heap.size ≤ k) _ _ := hX91.trans (N16.ext0)
                          refine .alt ?_ ?_
                          · refine .s rfl rfl rfl (.storeAll (n := 3) (E := 36) (cs := [i64 0, .slice none 0 0, .slice none 0 0]) rfl rfl rfl rfl rfl (by first | exact N16.blk | exact N16.blk.ext X91 (fun x => x)) rfl) (by intro wz hP; exact hX16.trans (hP.ext.mono (by rintro k _ rfl; show w66.heap.size ≤ _; omega))) ?_
                            intro wb16 P16
                            have hXs9 : Ext (fun k => w66.heap.size ≤ k) _ _ := hX16.trans (P16.ext.mono (by rintro k _ rfl; show w66.heap.size ≤ _; omega))
                            refine .p rfl rfl rfl rfl (fun wx hx => .as rfl) ?_
                            refine .nil ?_
                            have zb := P16.size
                            exact (meet (w91.heap.size, x91, e91, (f91, g91, p91, q91), wb16) ⟨P16.blk, allOf (tDisk.ext (tDisk.ext0 R91 N16.ext) P16.ext (fun k hk _ he => by have he : k = w91.heap.size := he; omega)), (Ext.refl w66).then hXs9 (fun k hk _ => hk), hx91, by show w91.heap.size < wb16.heap.size; omega⟩).of ⟨rfl, rfl, rfl, rfl, rfl, rfl, trivial⟩
                          exact .stop
                        exact .stop
                      refine .alt ?_ ?_
                      · refine .v rfl rfl rfl rfl (.alloc rfl rfl) (by rintro _ _ ⟨_, hN⟩; exact (Ext.refl _).trans hN.ext0) ?_
                        rintro _ wa16 ⟨rfl, N16⟩
                        have z16 := N16.size
                        have hX16 : Ext (fun k => w66.heap.size ≤ k) _ _ := (Ext.refl _).trans (N16.ext0)
                        refine .alt ?_ ?_
                        · refine .call (first := []) (captured := []) rfl rfl rfl rfl rfl rfl (DoE_fn (d := d) (l := ((addL d (flagsAt [] 0 l)).1.take n.toNat).drop 0) (allOf (tDisk.ext (tDisk.ext0 R3 (by repeat (first | exact Ext.refl _ | assumption | refine Ext.trans (by assumption) ?_))) hX16 (by intro k hk _ he; have he : w66.heap.size ≤ k := he; omega))) (allOf ((Sl tAct).ext ((Sl tAct).ext0 R78 (by repeat (first | exact Ext.refl _ | assumption | refine Ext.trans (by assumption) ?_))) hX16 (by intro k hk _ he; have he : w66.heap.size ≤ k := he; omega)))) (by rintro _ _ ⟨_, _, _, _, _, _, hx⟩; exact hX16.trans (hx.mono (fun _ _ h => h.elim))) ?_
                          rintro _ w91 ⟨v91, x91, e91, hx91, rfl, R91, X91⟩
                          have z91 := X91.size
                          obtain ⟨f91, g91, p91, q91, rfl⟩ := disk_shape R91
                          have hX91 : Ext (fun k => w66.heap.size ≤ k) _ _ := hX16.trans (X91.mono (fun _ _ h => h.elim))
                          refine .p rfl rfl rfl rfl (fun wx hx => .mv rfl) ?_
                          refine .p rfl rfl rfl rfl (fun wx hx => .extract rfl rfl) ?_
                          refine .p rfl rfl rfl rfl (fun wx hx => .extract rfl rfl) ?_
                          refine .alt ?_ ?_
                          · refine .s rfl rfl rfl (.storeAll (n := 3) (E := 36) (cs := [i64 0, .slice none 0 0, .slice none 0 0]) rfl rfl rfl rfl rfl (by first | exact N16.blk | exact N16.blk.ext X91 (fun x => x)) rfl) (by intro wz hP; exact hX91.trans (hP.ext.mono (by rintro k _ rfl; show w66.heap.size ≤ _; omega))) ?_
                            intro wb16 P16
                            have hXs9 : Ext (fun k => w66.heap.size ≤ k) _ _ := hX91.trans (P16.ext.mono (by rintro k _ rfl; show w66.heap.size ≤ _; omega))
                            refine .p rfl rfl rfl rfl (fun wx hx => .as rfl) ?_
                            refine .nil ?_
                            have zb := P16.size
                            exact (meet (w66.heap.size, x91, e91, (f91, g91, p91, q91), wb16) ⟨P16.blk, allOf (tDisk.ext (R91) P16.ext (fun k hk _ he => by have he : k = w66.heap.size := he; omega)), (Ext.refl w66).then hXs9 (fun k hk _ => hk), hx91, by show w66.heap.size < wb16.heap.size; omega⟩).of ⟨rfl, rfl, rfl, rfl, rfl, rfl, trivial⟩
                          exact .stop
                        exact .stop
                      exact .stop
end Go.Proofs.Ytapdacjpmmjlhaa
