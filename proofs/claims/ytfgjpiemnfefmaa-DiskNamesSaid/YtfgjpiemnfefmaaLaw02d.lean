/-
  DiskLast, DiskKeeps: walked.
-/
import Derived.Test.YtfgjpiemnfefmaaLaw02c
set_option linter.unusedVariables false
set_option linter.unusedSimpArgs false
set_option maxRecDepth 20000
namespace Go.Proofs.Ytfgjpiemnfefmaa
open Go disk
theorem WriteE_fn {w : World} {v vb : Value} {d : Disk} {n : Int} {b : Bs} (h : tDisk.rep All w v d) (hb : tBytes.rep All w vb b) (hn : -9223372036854775808 ≤ n ∧ n ≤ 9223372036854775807) : Fn Try.prog 27 [v, i64 n, vb] w (fun r w2 => ∃ v' x e, doF d [⟨false, n, b⟩] = (x, e) ∧ r = .tuple #[v', i64 e] ∧ tDisk.rep All w2 v' x ∧ Ext (fun _ => False) w w2) :=
  (Write_fn h hb hn).mono fun r w2 ⟨v, h1, h2, h3⟩ => ⟨v, _, _, rfl, h1, allOf h2.rep, h3⟩
theorem DoE_fn {w : World} {v vl : Value} {d : Disk} {l : List disk.Act} (h : tDisk.rep All w v d) (hl : (Sl tAct).rep All w vl l) : Fn Try.prog 12 [v, vl] w (fun r w2 => ∃ v' x e, doF d l = (x, e) ∧ r = .tuple #[v', i64 e] ∧ tDisk.rep (fun k => w.heap.size ≤ k ∧ k < w2.heap.size) w2 v' x ∧ Ext (fun _ => False) w w2) :=
  (Do_fn h hl).mono fun r w2 ⟨v, h1, h2, h3⟩ => ⟨v, _, _, rfl, h1, tDisk.mono h2.rep (fun k h1 h => ⟨h1, h⟩), h3⟩
theorem Flush0_fn {w : World} {v : Value} {d : Disk} (h : tDisk.rep All w v d) (hc : checkF d = 0) : Fn Try.prog 14 [v] w (fun r w2 => ∃ v', r = .tuple #[v', i64 0] ∧ tDisk.rep All w2 v' (settleD d (fun _ => true)) ∧ Ext (fun _ => False) w w2) :=
  (Flush_fn h).mono fun r w2 ⟨v, h1, h2, h3⟩ => ⟨v, by rw [h1, flush_ok hc], by rw [flush_ok hc] at h2; exact allOf h2.rep, h3⟩
theorem Crash0_fn {w : World} {v vk : Value} {d : Disk} {ks : List Bool} (h : tDisk.rep All w v d) (hk : (Sl tBool).rep All w vk ks) (hc : checkF d = 0) : Fn Try.prog 16 [v, vk] w (fun r w2 => ∃ v', r = .tuple #[v', i64 0] ∧ tDisk.rep All w2 v' (settleD d (fun i => ks.getD i false)) ∧ Ext (fun _ => False) w w2) :=
  (Crash_fn h hk).mono fun r w2 ⟨v, h1, h2, h3⟩ => by
    have e : crashF d ks = (settleD d (fun i => ks.getD i false), 0) := by unfold crashF; rw [if_neg (by simp [hc])]
    rw [e] at h1 h2
    exact ⟨v, h1, allOf h2.rep, h3⟩
theorem Read0_fn {w : World} {v : Value} {d : Disk} {n : Int} (h : tDisk.rep All w v d) (hA : askedF d n = 0) : Fn Try.prog 23 [v, i64 n] w (fun r w2 => ∃ s, r = .tuple #[s, i64 0] ∧ tBytes.rep All w2 s (readF d n) ∧ Ext (fun _ => False) w w2) :=
  (Read_fn (n := n) h).mono fun r w2 ⟨s, b, h1, h2, _, h3⟩ => ⟨s, by rw [h1, hA], by rw [if_pos hA] at h2; exact own_all h2, h3⟩
theorem ReadA_fn {w : World} {v : Value} {d : Disk} {n : Int} (h : tDisk.rep All w v d) : Fn Try.prog 23 [v, i64 n] w (fun r w2 => ∃ s, r = .tuple #[s, i64 (askedF d n)] ∧ tBytes.rep All w2 s (if askedF d n = 0 then readF d n else []) ∧ Ext (fun _ => False) w w2) :=
  (Read_fn (n := n) h).mono fun r w2 ⟨s, b, h1, h2, _, h3⟩ => ⟨s, h1, own_all h2, h3⟩
theorem Sure0_fn {w : World} {v : Value} {d : Disk} {n : Int} (h : tDisk.rep All w v d) (hA : askedF d n = 0) : Fn Try.prog 25 [v, i64 n] w (fun r w2 => ∃ s, r = .tuple #[s, i64 0] ∧ tBytes.rep All w2 s (secOf d.data n.toNat) ∧ Ext (fun _ => False) w w2) :=
  (Sure_fn (n := n) h).mono fun r w2 ⟨s, b, h1, h2, _, h3⟩ => ⟨s, by rw [h1, hA], by rw [if_pos hA] at h2; exact own_all h2, h3⟩
theorem DiskLast_fn {w : World} {v vb : Value} {d : Disk} {n m : Int} {b : Bs} (h : tDisk.rep All w v d) (hn : -9223372036854775808 ≤ n ∧ n ≤ 9223372036854775807) (hb : tBytes.rep All w vb b) : Fn Try.prog 5 [v, i64 n, i64 m, vb] w (fun r w2 => r = .bool true ∧ Ext (fun _ => False) w w2) := by
  obtain ⟨u1, q1, u2, q2, rfl⟩ := tDisk.shape h
  obtain ⟨ab, capb, rfl, hcapb⟩ := Sl.val hb
  refine Fn.enter (fun w => Try.call5 _ w) Try.func5 rfl ?_
  refine .seq (.region ?_)
  refine .v rfl rfl (.box rfl) ?_
  rintro _ w4 ⟨rfl, N4⟩
  have X4 := N4.ext
  have z4 : w4.heap.size = w.heap.size + 1 := N4.size
  have B4 := N4.blk
  refine .p rfl rfl (.as rfl) ?_
  refine .nil (.code (.seq (.keep [(4, _), (1, _), (2, _), (3, _)] ⟨rfl, rfl, rfl, rfl, trivial⟩ (.region ?_))))
  refine .call (first := []) (captured := []) rfl rfl rfl rfl (alive_fn) ?_
  rintro _ w24 ⟨rfl, X24⟩
  have z24 := X24.size
  refine .p rfl rfl (.as rfl) ?_
  refine .nil (.code (.seq (.seq (.keep [(9, _), (4, _), (1, _), (2, _), (3, _)] ⟨rfl, rfl, rfl, rfl, rfl, trivial⟩ (.region ?_)))))
  refine .p rfl rfl (.mv rfl) ?_
  refine .p rfl rfl (.not rfl) ?_
  refine .nil (.code (.keep [(26, _), (9, _), (4, _), (1, _), (2, _), (3, _)] ⟨rfl, rfl, rfl, rfl, rfl, rfl, trivial⟩ (.condF rfl (.skip (.code (.seq (.seq (.keep [(9, _), (4, _), (1, _), (2, _), (3, _)] ⟨rfl, rfl, rfl, rfl, rfl, trivial⟩ (.region ?_)))))))))
  refine .p rfl rfl (.loadA (n := 3) rfl rfl rfl rfl rfl (B4.ext (S := fun _ => False) (by repeat (first | exact Ext.refl _ | assumption | refine Ext.trans (by assumption) ?_)) (fun x => x)).cells) ?_
  refine .call (first := []) (captured := []) rfl rfl rfl rfl (large_fn (tDisk.ext0 h (by repeat (first | exact Ext.refl _ | assumption | refine Ext.trans (by assumption) ?_)))) ?_
  rintro _ w28 ⟨rfl, X28⟩
  have z28 := X28.size
  refine .p rfl rfl (.mv rfl) ?_
  refine .case 29 rfl (fun c29 => ?_) (fun c29 => ?_)
  · refine .skip rfl rfl ?_
    refine .skip rfl rfl ?_
    refine .skip rfl rfl ?_
    refine .p rfl rfl (.pickT rfl rfl) ?_
    refine .nil (.code (.keep [(33, _), (9, _), (4, _), (1, _), (2, _), (3, _)] ⟨rfl, rfl, rfl, rfl, rfl, rfl, trivial⟩ (.condT rfl (.seq (.keep [(9, _)] ⟨rfl, trivial⟩ (.region ?_))))))
    refine .p rfl rfl (.mv rfl) ?_
    refine .p rfl rfl (.as rfl) ?_
    refine .nil (.code ?_)
    refine .ret _ rfl ?_
    exact ⟨rfl, (by repeat (first | exact Ext.refl _ | assumption | refine Ext.trans (by assumption) ?_))⟩
  · refine .p rfl rfl (.mv rfl) ?_
    refine .p rfl rfl (.len rfl rfl) ?_
    refine .p rfl rfl (.ne rfl rfl) ?_
    refine .p rfl rfl (.pickF rfl rfl) ?_
    refine .nil (.code (.keep [(33, _), (9, _), (4, _), (1, _), (2, _), (3, _)] ⟨rfl, rfl, rfl, rfl, rfl, rfl, trivial⟩ ?_))
    refine .condD rfl (fun c33 => ?_) (fun c33 => ?_)
    · refine .seq (.keep [(9, _)] ⟨rfl, trivial⟩ (.region ?_))
      refine .p rfl rfl (.mv rfl) ?_
      refine .p rfl rfl (.as rfl) ?_
      refine .nil (.code ?_)
      refine .ret _ rfl ?_
      exact ⟨rfl, (by repeat (first | exact Ext.refl _ | assumption | refine Ext.trans (by assumption) ?_))⟩
    · refine .skip (.code (.seq (.keep [(9, _), (4, _), (1, _), (2, _), (3, _)] ⟨rfl, rfl, rfl, rfl, rfl, trivial⟩ (.region ?_))))
      refine .p rfl rfl (.loadA (n := 3) rfl rfl rfl rfl rfl (B4.ext (S := fun _ => False) (by repeat (first | exact Ext.refl _ | assumption | refine Ext.trans (by assumption) ?_)) (fun x => x)).cells) ?_
      refine .p rfl rfl (.mv rfl) ?_
      refine .p rfl rfl (.mv rfl) ?_
      refine .call (first := []) (captured := []) rfl rfl rfl rfl (WriteE_fn (tDisk.ext0 h (by repeat (first | exact Ext.refl _ | assumption | refine Ext.trans (by assumption) ?_))) (tBytes.ext0 hb (by repeat (first | exact Ext.refl _ | assumption | refine Ext.trans (by assumption) ?_))) hn) ?_
      rintro _ w39 ⟨v39, x, e, hxe, rfl, R39, X39⟩
      have z39 := X39.size
      obtain ⟨x1, y1, p1, q1, rfl⟩ := tDisk.shape R39
      refine .p rfl rfl (.mv rfl) ?_
      refine .p rfl rfl (.extract rfl rfl) ?_
      refine .p rfl rfl (.extract rfl rfl) ?_
      refine .v rfl rfl (.alloc rfl rfl) ?_
      rintro _ wn10 ⟨rfl, N10⟩
      refine .s rfl (.storeAll (n := 3) rfl rfl rfl rfl rfl N10.blk rfl) ?_
      intro w6 P10
      have X10 := N10.ext.then P10.ext (by rintro k rfl _; exact Nat.le_refl _)
      have z10 := X10.size
      have B10 := P10.blk
      have l10 := B10.lt
      clear N10 P10
      refine .p rfl rfl (.as rfl) ?_
      refine .nil (.code (.seq (.seq (.keep [(11, _), (10, _), (9, _), (4, _), (1, _), (2, _), (3, _)] ⟨rfl, rfl, rfl, rfl, rfl, rfl, rfl, trivial⟩ (.region ?_)))))
      refine .p rfl rfl (.mv rfl) ?_
      refine .p rfl rfl (.ne rfl rfl) ?_
      refine .nil (.code (.keep [(43, _), (10, _), (9, _), (4, _), (1, _), (2, _), (3, _)] ⟨rfl, rfl, rfl, rfl, rfl, rfl, rfl, trivial⟩ ?_))
      refine .condD rfl (fun c43 => ?_) (fun c43 => ?_)
      · refine .seq (.keep [(10, _), (9, _)] ⟨rfl, rfl, trivial⟩ (.region ?_))
        refine .p rfl rfl (.mv rfl) ?_
        refine .p rfl rfl (.mv rfl) ?_
        refine .p rfl rfl (.fieldAddr rfl rfl rfl rfl) ?_
        refine .p rfl rfl (.load rfl rfl rfl (B10.cell 1)) ?_
        refine .p rfl rfl (.len rfl rfl) ?_
        refine .p rfl rfl (.yes (.eq rfl rfl) (by rw [show x = nodisk by have := doF_bad (d := d) (l := [⟨false, n, b⟩]) (by rw [hxe]; exact c43); rw [hxe] at this; exact this]; rfl)) ?_
        refine .p rfl rfl (.pickT rfl rfl) ?_
        refine .p rfl rfl (.as rfl) ?_
        refine .nil (.code ?_)
        refine .ret _ rfl ?_
        exact ⟨rfl, (by repeat (first | exact Ext.refl _ | assumption | refine Ext.trans (by assumption) ?_))⟩
      · have he : e = 0 := Decidable.not_not.1 c43
        subst he
        obtain ⟨hc, h0, hn', hb128, hw, h6⟩ := write_ok (d := d) (n := n) (b := b) (by rw [hxe])
        have hx : x = { d with waits := d.waits ++ [⟨n, b⟩] } := (Prod.mk.inj (hxe.symm.trans h6)).1
        have cx : checkF x = 0 := by rw [hx]; exact check_put hc hw ⟨h0, hn', hb128⟩
        have cntx : x.count = d.count := by rw [hx]
        have ax : askedF x n = 0 := asked_of cx h0 (by rw [cntx]; exact hn')
        have cy := check_settle cx (fun _ => true)
        have ay : askedF (settleD x (fun _ => true)) n = 0 := asked_of cy h0 (by show n < x.count; rw [cntx]; exact hn')
        have same_read : (if askedF (settleD x (fun _ => true)) m = 0 then readF (settleD x (fun _ => true)) m else []) = (if askedF x m = 0 then readF x m else []) := by
          rw [asked_same cx cy rfl m]
          split
          · rename_i ha
            obtain ⟨_, m0, m1⟩ := asked_ok ha
            rw [readF_settle, flush_read cx m0 m1]
          · rfl
        refine .skip (.code (.seq (.keep [(10, _), (9, _), (4, _), (1, _), (2, _), (3, _)] ⟨rfl, rfl, rfl, rfl, rfl, rfl, trivial⟩ (.region ?_))))
        refine .p rfl rfl (.loadA (n := 3) rfl rfl rfl rfl rfl (B10.ext (S := fun _ => False) (by repeat (first | exact Ext.refl _ | assumption | refine Ext.trans (by assumption) ?_)) (fun x => x)).cells) ?_
        refine .p rfl rfl (.mv rfl) ?_
        refine .call (first := []) (captured := []) rfl rfl rfl rfl (Read0_fn (tDisk.ext0 R39 (by repeat (first | exact Ext.refl _ | assumption | refine Ext.trans (by assumption) ?_))) ax) ?_
        rintro _ w54 ⟨s54, rfl, R54, X54⟩
        have z54 := X54.size
        refine .p rfl rfl (.mv rfl) ?_
        refine .p rfl rfl (.extract rfl rfl) ?_
        refine .p rfl rfl (.extract rfl rfl) ?_
        refine .p rfl rfl (.as rfl) ?_
        refine .p rfl rfl (.as rfl) ?_
        refine .nil (.code (.seq (.keep [(13, _), (12, _), (10, _), (9, _), (4, _), (1, _), (2, _), (3, _)] ⟨rfl, rfl, rfl, rfl, rfl, rfl, rfl, rfl, trivial⟩ (.region ?_))))
        refine .p rfl rfl (.loadA (n := 3) rfl rfl rfl rfl rfl (B4.ext (S := fun _ => False) (by repeat (first | exact Ext.refl _ | assumption | refine Ext.trans (by assumption) ?_)) (fun x => x)).cells) ?_
        refine .p rfl rfl (.mv rfl) ?_
        refine .call (first := []) (captured := []) rfl rfl rfl rfl (ReadA_fn (n := m) (tDisk.ext0 h (by repeat (first | exact Ext.refl _ | assumption | refine Ext.trans (by assumption) ?_)))) ?_
        rintro _ w60 ⟨s60, rfl, R60, X60⟩
        have z60 := X60.size
        refine .p rfl rfl (.mv rfl) ?_
        refine .p rfl rfl (.extract rfl rfl) ?_
        refine .p rfl rfl (.extract rfl rfl) ?_
        refine .p rfl rfl (.as rfl) ?_
        refine .p rfl rfl (.as rfl) ?_
        refine .nil (.code (.seq (.keep [(15, _), (14, _), (13, _), (12, _), (10, _), (9, _), (1, _), (2, _), (3, _)] ⟨rfl, rfl, rfl, rfl, rfl, rfl, rfl, rfl, rfl, trivial⟩ (.region ?_))))
        refine .p rfl rfl (.loadA (n := 3) rfl rfl rfl rfl rfl (B10.ext (S := fun _ => False) (by repeat (first | exact Ext.refl _ | assumption | refine Ext.trans (by assumption) ?_)) (fun x => x)).cells) ?_
        refine .p rfl rfl (.mv rfl) ?_
        refine .call (first := []) (captured := []) rfl rfl rfl rfl (ReadA_fn (n := m) (tDisk.ext0 R39 (by repeat (first | exact Ext.refl _ | assumption | refine Ext.trans (by assumption) ?_)))) ?_
        rintro _ w66 ⟨s66, rfl, R66, X66⟩
        have z66 := X66.size
        refine .p rfl rfl (.mv rfl) ?_
        refine .p rfl rfl (.extract rfl rfl) ?_
        refine .p rfl rfl (.extract rfl rfl) ?_
        refine .p rfl rfl (.as rfl) ?_
        refine .p rfl rfl (.as rfl) ?_
        refine .nil (.code (.seq (.keep [(17, _), (16, _), (15, _), (14, _), (13, _), (12, _), (10, _), (9, _), (1, _), (2, _), (3, _)] ⟨rfl, rfl, rfl, rfl, rfl, rfl, rfl, rfl, rfl, rfl, rfl, trivial⟩ (.region ?_))))
        refine .p rfl rfl (.loadA (n := 3) rfl rfl rfl rfl rfl (B10.ext (S := fun _ => False) (by repeat (first | exact Ext.refl _ | assumption | refine Ext.trans (by assumption) ?_)) (fun x => x)).cells) ?_
        refine .call (first := []) (captured := []) rfl rfl rfl rfl (Flush0_fn (tDisk.ext0 R39 (by repeat (first | exact Ext.refl _ | assumption | refine Ext.trans (by assumption) ?_))) cx) ?_
        rintro _ w71 ⟨v71, rfl, R71, X71⟩
        have z71 := X71.size
        obtain ⟨x2, y2, p2, q2, rfl⟩ := tDisk.shape R71
        refine .p rfl rfl (.mv rfl) ?_
        refine .p rfl rfl (.extract rfl rfl) ?_
        refine .p rfl rfl (.extract rfl rfl) ?_
        refine .v rfl rfl (.alloc rfl rfl) ?_
        rintro _ wn18 ⟨rfl, N18⟩
        refine .s rfl (.storeAll (n := 3) rfl rfl rfl rfl rfl N18.blk rfl) ?_
        intro w12 P18
        have X18 := N18.ext.then P18.ext (by rintro k rfl _; exact Nat.le_refl _)
        have z18 := X18.size
        have B18 := P18.blk
        have l18 := B18.lt
        clear N18 P18
        refine .p rfl rfl (.as rfl) ?_
        refine .nil (.code (.seq (.keep [(19, _), (18, _), (17, _), (16, _), (15, _), (14, _), (13, _), (12, _), (9, _), (1, _), (2, _), (3, _)] ⟨rfl, rfl, rfl, rfl, rfl, rfl, rfl, rfl, rfl, rfl, rfl, rfl, trivial⟩ (.region ?_))))
        refine .p rfl rfl (.loadA (n := 3) rfl rfl rfl rfl rfl (B18.ext (S := fun _ => False) (by repeat (first | exact Ext.refl _ | assumption | refine Ext.trans (by assumption) ?_)) (fun x => x)).cells) ?_
        refine .p rfl rfl (.mv rfl) ?_
        refine .call (first := []) (captured := []) rfl rfl rfl rfl (Sure0_fn (tDisk.ext0 R71 (by repeat (first | exact Ext.refl _ | assumption | refine Ext.trans (by assumption) ?_))) ay) ?_
        rintro _ w77 ⟨s77, rfl, R77, X77⟩
        have z77 := X77.size
        refine .p rfl rfl (.mv rfl) ?_
        refine .p rfl rfl (.extract rfl rfl) ?_
        refine .p rfl rfl (.extract rfl rfl) ?_
        refine .p rfl rfl (.as rfl) ?_
        refine .p rfl rfl (.as rfl) ?_
        refine .nil (.code (.seq (.seq (.keep [(21, _), (20, _), (19, _), (18, _), (17, _), (16, _), (15, _), (14, _), (13, _), (12, _), (9, _), (1, _), (2, _), (3, _)] ⟨rfl, rfl, rfl, rfl, rfl, rfl, rfl, rfl, rfl, rfl, rfl, rfl, rfl, rfl, trivial⟩ (.region ?_)))))
        refine .p rfl rfl (.mv rfl) ?_
        refine .p rfl rfl (.no (.ne rfl rfl) (fun h => h rfl)) ?_
        refine .p rfl rfl (.mv rfl) ?_
        refine .p rfl rfl (.mv rfl) ?_
        refine .p rfl rfl (.mv rfl) ?_
        refine .p rfl rfl (.no (.ne rfl rfl) (fun h => h (asked_same hc cx cntx m).symm)) ?_
        refine .p rfl rfl (.pickF rfl rfl) ?_
        refine .p rfl rfl (.mv rfl) ?_
        refine .p rfl rfl (.mv rfl) ?_
        refine .p rfl rfl (.no (.ne rfl rfl) (fun h => h rfl)) ?_
        refine .p rfl rfl (.pickF rfl rfl) ?_
        refine .p rfl rfl (.mv rfl) ?_
        refine .p rfl rfl (.mv rfl) ?_
        refine .p rfl rfl (.no (.ne rfl rfl) (fun h => h rfl)) ?_
        refine .p rfl rfl (.pickF rfl rfl) ?_
        refine .p rfl rfl (.mv rfl) ?_
        refine .p rfl rfl (.mv rfl) ?_
        refine .p rfl rfl (.bytesStr rfl (tBytes.ext0 R54 (by repeat (first | exact Ext.refl _ | assumption | refine Ext.trans (by assumption) ?_))) rfl rfl rfl) ?_
        refine .p rfl rfl (.mv rfl) ?_
        refine .p rfl rfl (.bytesStr rfl (tBytes.ext0 hb (by repeat (first | exact Ext.refl _ | assumption | refine Ext.trans (by assumption) ?_))) rfl rfl rfl) ?_
        refine .p rfl rfl (.no (.neS rfl rfl) (fun h => h (by rw [hx]; exact readF_put_same))) ?_
        refine .p rfl rfl (.pickF rfl rfl) ?_
        refine .p rfl rfl (.mv rfl) ?_
        refine .p rfl rfl (.mv rfl) ?_
        refine .p rfl rfl (.bytesStr rfl (tBytes.ext0 R77 (by repeat (first | exact Ext.refl _ | assumption | refine Ext.trans (by assumption) ?_))) rfl rfl rfl) ?_
        refine .p rfl rfl (.mv rfl) ?_
        refine .p rfl rfl (.bytesStr rfl (tBytes.ext0 hb (by repeat (first | exact Ext.refl _ | assumption | refine Ext.trans (by assumption) ?_))) rfl rfl rfl) ?_
        refine .p rfl rfl (.no (.neS rfl rfl) (fun h => h ((flush_read cx h0 (by rw [cntx]; exact hn')).trans (by rw [hx]; exact readF_put_same)))) ?_
        refine .p rfl rfl (.pickF rfl rfl) ?_
        refine .p rfl rfl (.mv rfl) ?_
        refine .p rfl rfl (.mv rfl) ?_
        refine .p rfl rfl (.mv rfl) ?_
        refine .p rfl rfl (.ne rfl rfl) ?_
        refine .p rfl rfl (.mv rfl) ?_
        refine .caseD 113 rfl (fun c113 => ?_) (fun c113 => ?_)
        · refine .p rfl rfl (.mv rfl) ?_
          refine .p rfl rfl (.bytesStr rfl (tBytes.ext0 R60 (by repeat (first | exact Ext.refl _ | assumption | refine Ext.trans (by assumption) ?_))) rfl rfl rfl) ?_
          refine .p rfl rfl (.mv rfl) ?_
          refine .p rfl rfl (.bytesStr rfl (tBytes.ext0 R66 (by repeat (first | exact Ext.refl _ | assumption | refine Ext.trans (by assumption) ?_))) rfl rfl rfl) ?_
          refine .p rfl rfl (.no (.neS rfl rfl) (fun h => h (by rw [asked_same hc cx cntx m, hx, readF_put_other c113]))) ?_
          refine .p rfl rfl (.pickT rfl rfl) ?_
          refine .p rfl rfl (.pickF rfl rfl) ?_
          refine .nil (.code (.keep [(120, _), (18, _), (17, _), (16, _), (9, _), (2, _)] ⟨rfl, rfl, rfl, rfl, rfl, rfl, trivial⟩ (.condF rfl (.skip (.code (.seq (.keep [(18, _), (17, _), (16, _), (9, _), (2, _)] ⟨rfl, rfl, rfl, rfl, rfl, trivial⟩ (.region ?_))))))))
          refine .p rfl rfl (.loadA (n := 3) rfl rfl rfl rfl rfl (B18.ext (S := fun _ => False) (by repeat (first | exact Ext.refl _ | assumption | refine Ext.trans (by assumption) ?_)) (fun x => x)).cells) ?_
          refine .p rfl rfl (.mv rfl) ?_
          refine .call (first := []) (captured := []) rfl rfl rfl rfl (ReadA_fn (n := m) (tDisk.ext0 R71 (by repeat (first | exact Ext.refl _ | assumption | refine Ext.trans (by assumption) ?_)))) ?_
          rintro _ w124 ⟨s124, rfl, R124, X124⟩
          have z124 := X124.size
          refine .p rfl rfl (.mv rfl) ?_
          refine .p rfl rfl (.extract rfl rfl) ?_
          refine .p rfl rfl (.extract rfl rfl) ?_
          refine .p rfl rfl (.as rfl) ?_
          refine .p rfl rfl (.as rfl) ?_
          refine .nil (.code (.seq (.keep [(23, _), (22, _), (18, _), (17, _), (16, _), (9, _)] ⟨rfl, rfl, rfl, rfl, rfl, rfl, trivial⟩ (.region ?_))))
          refine .p rfl rfl (.mv rfl) ?_
          refine .p rfl rfl (.mv rfl) ?_
          refine .p rfl rfl (.mv rfl) ?_
          refine .p rfl rfl (.mv rfl) ?_
          refine .p rfl rfl (.yes (.eq rfl rfl) (asked_same cx cy rfl m)) ?_
          refine .p rfl rfl (.pickT rfl rfl) ?_
          refine .p rfl rfl (.mv rfl) ?_
          refine .p rfl rfl (.mv rfl) ?_
          refine .p rfl rfl (.bytesStr rfl (tBytes.ext0 R124 (by repeat (first | exact Ext.refl _ | assumption | refine Ext.trans (by assumption) ?_))) rfl rfl rfl) ?_
          refine .p rfl rfl (.mv rfl) ?_
          refine .p rfl rfl (.bytesStr rfl (tBytes.ext0 R66 (by repeat (first | exact Ext.refl _ | assumption | refine Ext.trans (by assumption) ?_))) rfl rfl rfl) ?_
          refine .p rfl rfl (.yes (.eqS rfl rfl) (same_read)) ?_
          refine .p rfl rfl (.pickT rfl rfl) ?_
          refine .p rfl rfl (.mv rfl) ?_
          refine .p rfl rfl (.fieldAddr rfl rfl rfl rfl) ?_
          refine .p rfl rfl (.load rfl rfl rfl ((B18.ext (S := fun _ => False) (by repeat (first | exact Ext.refl _ | assumption | refine Ext.trans (by assumption) ?_)) (fun x => x)).cell 2)) ?_
          refine .p rfl rfl (.len rfl rfl) ?_
          refine .p rfl rfl (.yes (.eq rfl rfl) (rfl)) ?_
          refine .p rfl rfl (.pickT rfl rfl) ?_
          refine .p rfl rfl (.as rfl) ?_
          refine .nil (.code ?_)
          refine .ret _ rfl ?_
          exact ⟨rfl, (by repeat (first | exact Ext.refl _ | assumption | refine Ext.trans (by assumption) ?_))⟩
        · refine .skip rfl rfl ?_
          refine .skip rfl rfl ?_
          refine .skip rfl rfl ?_
          refine .skip rfl rfl ?_
          refine .skip rfl rfl ?_
          refine .p rfl rfl (.pickF rfl rfl) ?_
          refine .p rfl rfl (.pickF rfl rfl) ?_
          refine .nil (.code (.keep [(120, _), (18, _), (17, _), (16, _), (9, _), (2, _)] ⟨rfl, rfl, rfl, rfl, rfl, rfl, trivial⟩ (.condF rfl (.skip (.code (.seq (.keep [(18, _), (17, _), (16, _), (9, _), (2, _)] ⟨rfl, rfl, rfl, rfl, rfl, trivial⟩ (.region ?_))))))))
          refine .p rfl rfl (.loadA (n := 3) rfl rfl rfl rfl rfl (B18.ext (S := fun _ => False) (by repeat (first | exact Ext.refl _ | assumption | refine Ext.trans (by assumption) ?_)) (fun x => x)).cells) ?_
          refine .p rfl rfl (.mv rfl) ?_
          refine .call (first := []) (captured := []) rfl rfl rfl rfl (ReadA_fn (n := m) (tDisk.ext0 R71 (by repeat (first | exact Ext.refl _ | assumption | refine Ext.trans (by assumption) ?_)))) ?_
          rintro _ w124 ⟨s124, rfl, R124, X124⟩
          have z124 := X124.size
          refine .p rfl rfl (.mv rfl) ?_
          refine .p rfl rfl (.extract rfl rfl) ?_
          refine .p rfl rfl (.extract rfl rfl) ?_
          refine .p rfl rfl (.as rfl) ?_
          refine .p rfl rfl (.as rfl) ?_
          refine .nil (.code (.seq (.keep [(23, _), (22, _), (18, _), (17, _), (16, _), (9, _)] ⟨rfl, rfl, rfl, rfl, rfl, rfl, trivial⟩ (.region ?_))))
          refine .p rfl rfl (.mv rfl) ?_
          refine .p rfl rfl (.mv rfl) ?_
          refine .p rfl rfl (.mv rfl) ?_
          refine .p rfl rfl (.mv rfl) ?_
          refine .p rfl rfl (.yes (.eq rfl rfl) (asked_same cx cy rfl m)) ?_
          refine .p rfl rfl (.pickT rfl rfl) ?_
          refine .p rfl rfl (.mv rfl) ?_
          refine .p rfl rfl (.mv rfl) ?_
          refine .p rfl rfl (.bytesStr rfl (tBytes.ext0 R124 (by repeat (first | exact Ext.refl _ | assumption | refine Ext.trans (by assumption) ?_))) rfl rfl rfl) ?_
          refine .p rfl rfl (.mv rfl) ?_
          refine .p rfl rfl (.bytesStr rfl (tBytes.ext0 R66 (by repeat (first | exact Ext.refl _ | assumption | refine Ext.trans (by assumption) ?_))) rfl rfl rfl) ?_
          refine .p rfl rfl (.yes (.eqS rfl rfl) (same_read)) ?_
          refine .p rfl rfl (.pickT rfl rfl) ?_
          refine .p rfl rfl (.mv rfl) ?_
          refine .p rfl rfl (.fieldAddr rfl rfl rfl rfl) ?_
          refine .p rfl rfl (.load rfl rfl rfl ((B18.ext (S := fun _ => False) (by repeat (first | exact Ext.refl _ | assumption | refine Ext.trans (by assumption) ?_)) (fun x => x)).cell 2)) ?_
          refine .p rfl rfl (.len rfl rfl) ?_
          refine .p rfl rfl (.yes (.eq rfl rfl) (rfl)) ?_
          refine .p rfl rfl (.pickT rfl rfl) ?_
          refine .p rfl rfl (.as rfl) ?_
          refine .nil (.code ?_)
          refine .ret _ rfl ?_
          exact ⟨rfl, (by repeat (first | exact Ext.refl _ | assumption | refine Ext.trans (by assumption) ?_))⟩
theorem DiskKeeps_fn {w : World} {v vk : Value} {d : Disk} {ks : List Bool} (h : tDisk.rep All w v d) (hk : (Sl tBool).rep All w vk ks) : Fn Try.prog 6 [v, vk] w (fun r w2 => r = .bool true ∧ Ext (fun _ => False) w w2) := by
  obtain ⟨vd, vw, ev, hd, hw, _⟩ := tDisk.val h
  obtain ⟨ad0, cd0, rfl, _⟩ := Sl.val hd
  obtain ⟨aw, capw, rfl, hcapw⟩ := Sl.val hw
  subst ev
  obtain ⟨ak, capk, rfl, hcapk⟩ := Sl.val hk
  refine Fn.enter (fun w => Try.call6 _ w) Try.func6 rfl ?_
  refine .seq (.region ?_)
  refine .v rfl rfl (.box rfl) ?_
  rintro _ w2 ⟨rfl, N2⟩
  have X2 := N2.ext
  have z2 : w2.heap.size = w.heap.size + 1 := N2.size
  have B2 := N2.blk
  refine .p rfl rfl (.as rfl) ?_
  refine .nil (.code (.seq (.keep [(2, _), (1, _)] ⟨rfl, rfl, trivial⟩ (.region ?_))))
  refine .call (first := []) (captured := []) rfl rfl rfl rfl (alive_fn) ?_
  rintro _ w15 ⟨rfl, X15⟩
  have z15 := X15.size
  refine .p rfl rfl (.as rfl) ?_
  refine .nil (.code (.seq (.seq (.keep [(5, _), (2, _), (1, _)] ⟨rfl, rfl, rfl, trivial⟩ (.region ?_)))))
  refine .p rfl rfl (.mv rfl) ?_
  refine .p rfl rfl (.not rfl) ?_
  refine .nil (.code (.keep [(17, _), (5, _), (2, _), (1, _)] ⟨rfl, rfl, rfl, rfl, trivial⟩ (.condF rfl (.skip (.code (.seq (.seq (.keep [(5, _), (2, _), (1, _)] ⟨rfl, rfl, rfl, trivial⟩ (.region ?_)))))))))
  refine .p rfl rfl (.loadA (n := 3) rfl rfl rfl rfl rfl (B2.ext (S := fun _ => False) (by repeat (first | exact Ext.refl _ | assumption | refine Ext.trans (by assumption) ?_)) (fun x => x)).cells) ?_
  refine .call (first := []) (captured := []) rfl rfl rfl rfl (large_fn (tDisk.ext0 h (by repeat (first | exact Ext.refl _ | assumption | refine Ext.trans (by assumption) ?_)))) ?_
  rintro _ w19 ⟨rfl, X19⟩
  have z19 := X19.size
  refine .p rfl rfl (.mv rfl) ?_
  refine .case 20 rfl (fun c20 => ?_) (fun c20 => ?_)
  · refine .skip rfl rfl ?_
    refine .skip rfl rfl ?_
    refine .skip rfl rfl ?_
    refine .p rfl rfl (.pickT rfl rfl) ?_
    refine .nil (.code (.keep [(24, _), (5, _), (2, _), (1, _)] ⟨rfl, rfl, rfl, rfl, trivial⟩ (.condT rfl (.seq (.keep [(5, _)] ⟨rfl, trivial⟩ (.region ?_))))))
    refine .p rfl rfl (.mv rfl) ?_
    refine .p rfl rfl (.as rfl) ?_
    refine .nil (.code ?_)
    refine .ret _ rfl ?_
    exact ⟨rfl, (by repeat (first | exact Ext.refl _ | assumption | refine Ext.trans (by assumption) ?_))⟩
  · refine .p rfl rfl (.loadA (n := 3) rfl rfl rfl rfl rfl (B2.ext (S := fun _ => False) (by repeat (first | exact Ext.refl _ | assumption | refine Ext.trans (by assumption) ?_)) (fun x => x)).cells) ?_
    refine .call (first := []) (captured := []) rfl rfl rfl rfl (Check_fn (tDisk.ext0 h (by repeat (first | exact Ext.refl _ | assumption | refine Ext.trans (by assumption) ?_)))) ?_
    rintro _ w22 ⟨rfl, X22⟩
    have z22 := X22.size
    refine .p rfl rfl (.ne rfl rfl) ?_
    refine .p rfl rfl (.pickF rfl rfl) ?_
    refine .nil (.code (.keep [(24, _), (5, _), (2, _), (1, _)] ⟨rfl, rfl, rfl, rfl, trivial⟩ ?_))
    refine .condD rfl (fun c24 => ?_) (fun c24 => ?_)
    · refine .seq (.keep [(5, _)] ⟨rfl, trivial⟩ (.region ?_))
      refine .p rfl rfl (.mv rfl) ?_
      refine .p rfl rfl (.as rfl) ?_
      refine .nil (.code ?_)
      refine .ret _ rfl ?_
      exact ⟨rfl, (by repeat (first | exact Ext.refl _ | assumption | refine Ext.trans (by assumption) ?_))⟩
    · have hc : checkF d = 0 := Decidable.not_not.1 c24
      obtain ⟨k1, k2, k3, k4, k5⟩ := check_ok hc
      refine .skip (.code (.seq (.keep [(5, _), (2, _), (1, _)] ⟨rfl, rfl, rfl, trivial⟩ (.region ?_))))
      refine .p rfl rfl (.loadA (n := 3) rfl rfl rfl rfl rfl (B2.ext (S := fun _ => False) (by repeat (first | exact Ext.refl _ | assumption | refine Ext.trans (by assumption) ?_)) (fun x => x)).cells) ?_
      refine .p rfl rfl (.mv rfl) ?_
      refine .call (first := []) (captured := []) rfl rfl rfl rfl (Crash0_fn (tDisk.ext0 h (by repeat (first | exact Ext.refl _ | assumption | refine Ext.trans (by assumption) ?_))) ((Sl tBool).ext0 hk (by repeat (first | exact Ext.refl _ | assumption | refine Ext.trans (by assumption) ?_))) hc) ?_
      rintro _ w29 ⟨v29, rfl, R29, X29⟩
      have z29 := X29.size
      obtain ⟨x1, y1, p1, q1, rfl⟩ := tDisk.shape R29
      refine .p rfl rfl (.mv rfl) ?_
      refine .p rfl rfl (.extract rfl rfl) ?_
      refine .p rfl rfl (.extract rfl rfl) ?_
      refine .v rfl rfl (.alloc rfl rfl) ?_
      rintro _ wn6 ⟨rfl, N6⟩
      refine .s rfl (.storeAll (n := 3) rfl rfl rfl rfl rfl N6.blk rfl) ?_
      intro w6 P6
      have X6 := N6.ext.then P6.ext (by rintro k rfl _; exact Nat.le_refl _)
      have z6 := X6.size
      have B6 := P6.blk
      have l6 := B6.lt
      clear N6 P6
      refine .p rfl rfl (.as rfl) ?_
      refine .nil (.code (.seq (.seq (.keep [(7, _), (6, _), (5, _), (2, _)] ⟨rfl, rfl, rfl, rfl, trivial⟩ (.region ?_)))))
      refine .p rfl rfl (.mv rfl) ?_
      refine .p rfl rfl (.no (.ne rfl rfl) (fun h => h rfl)) ?_
      refine .p rfl rfl (.mv rfl) ?_
      refine .p rfl rfl (.fieldAddr rfl rfl rfl rfl) ?_
      refine .p rfl rfl (.load rfl rfl rfl ((B6.ext (S := fun _ => False) (by repeat (first | exact Ext.refl _ | assumption | refine Ext.trans (by assumption) ?_)) (fun x => x)).cell 2)) ?_
      refine .p rfl rfl (.len rfl rfl) ?_
      refine .p rfl rfl (.no (.ne rfl rfl) (fun h => h rfl)) ?_
      refine .p rfl rfl (.pickF rfl rfl) ?_
      refine .p rfl rfl (.mv rfl) ?_
      refine .p rfl rfl (.fieldAddr rfl rfl rfl rfl) ?_
      refine .p rfl rfl (.load rfl rfl rfl ((B6.ext (S := fun _ => False) (by repeat (first | exact Ext.refl _ | assumption | refine Ext.trans (by assumption) ?_)) (fun x => x)).cell 0)) ?_
      refine .p rfl rfl (.fieldAddr rfl rfl rfl rfl) ?_
      refine .p rfl rfl (.load rfl rfl rfl ((B2.ext (S := fun _ => False) (by repeat (first | exact Ext.refl _ | assumption | refine Ext.trans (by assumption) ?_)) (fun x => x)).cell 0)) ?_
      refine .p rfl rfl (.no (.ne rfl rfl) (fun h => h rfl)) ?_
      refine .p rfl rfl (.pickF rfl rfl) ?_
      refine .p rfl rfl (.mv rfl) ?_
      refine .p rfl rfl (.loadA (n := 3) rfl rfl rfl rfl rfl (B6.ext (S := fun _ => False) (by repeat (first | exact Ext.refl _ | assumption | refine Ext.trans (by assumption) ?_)) (fun x => x)).cells) ?_
      refine .call (first := []) (captured := []) rfl rfl rfl rfl (Check_fn (tDisk.ext0 R29 (by repeat (first | exact Ext.refl _ | assumption | refine Ext.trans (by assumption) ?_)))) ?_
      rintro _ w49 ⟨rfl, X49⟩
      have z49 := X49.size
      refine .p rfl rfl (.no (.ne rfl rfl) (fun h => h (check_settle hc _))) ?_
      refine .p rfl rfl (.pickF rfl rfl) ?_
      refine .nil (.code (.keep [(51, _), (6, _), (5, _), (2, _)] ⟨rfl, rfl, rfl, rfl, trivial⟩ (.condF rfl (.skip (.code (.seq (.seq (.keep [(6, _), (5, _), (2, _)] ⟨rfl, rfl, rfl, trivial⟩ (.region ?_)))))))))
      refine .p rfl rfl (.as rfl) ?_
      refine .nil (.code (.block ?_))
      refine .loop (S := Nat × World) (fun s => [(2, .pointer (some ⟨w.heap.size, 0, none⟩)), (5, .bool true), (6, .pointer (some ⟨w29.heap.size, 0, none⟩)), (8, i64 s.1)]) (fun s => s.2) (fun s => (s.1 : Int) ≤ d.count ∧ Ext (fun _ => False) w49 s.2) (fun s => d.count.toNat - s.1) (0, w49) ⟨rfl, rfl, rfl, rfl, trivial⟩ rfl ⟨by show ((0 : Nat) : Int) ≤ d.count; omega, .refl _⟩ ?_
      rintro ⟨i, wi⟩ J ⟨hi', hX⟩ again
      simp only at hi' hX
      change G _ [(2, .pointer (some ⟨w.heap.size, 0, none⟩)), (5, .bool true), (6, .pointer (some ⟨w29.heap.size, 0, none⟩)), (8, i64 i)] _ _ wi
      refine .seq (.seq (.region ?_))
      refine .p rfl rfl (.mv rfl) ?_
      refine .p rfl rfl (.fieldAddr rfl rfl rfl rfl) ?_
      refine .p rfl rfl (.load rfl rfl rfl ((B2.ext (S := fun _ => False) (by repeat (first | exact Ext.refl _ | assumption | refine Ext.trans (by assumption) ?_)) (fun x => x)).cell 0)) ?_
      refine .p rfl rfl (.lt rfl rfl) ?_
      refine .nil (.code (.keep [(55, _), (2, _), (5, _), (6, _), (8, _)] ⟨rfl, rfl, rfl, rfl, rfl, trivial⟩ ?_))
      refine .condD rfl (fun c55 => ?_) (fun c55 => ?_)
      · refine .skip (.code (.seq (.block (.seq (.keep [(2, _), (5, _), (6, _), (8, _)] ⟨rfl, rfl, rfl, rfl, trivial⟩ (.region ?_))))))
        refine .p rfl rfl (.loadA (n := 3) rfl rfl rfl rfl rfl (B2.ext (S := fun _ => False) (by repeat (first | exact Ext.refl _ | assumption | refine Ext.trans (by assumption) ?_)) (fun x => x)).cells) ?_
        refine .p rfl rfl (.mv rfl) ?_
        refine .call (first := []) (captured := []) rfl rfl rfl rfl (Sure0_fn (tDisk.ext0 h (by repeat (first | exact Ext.refl _ | assumption | refine Ext.trans (by assumption) ?_))) (asked_of hc (by omega) (by omega))) ?_
        rintro _ w61 ⟨s61, rfl, R61, X61⟩
        have z61 := X61.size
        refine .p rfl rfl (.mv rfl) ?_
        refine .p rfl rfl (.extract rfl rfl) ?_
        refine .p rfl rfl (.extract rfl rfl) ?_
        refine .p rfl rfl (.as rfl) ?_
        refine .p rfl rfl (.as rfl) ?_
        refine .nil (.code (.seq (.keep [(9, _), (2, _), (5, _), (6, _), (8, _)] ⟨rfl, rfl, rfl, rfl, rfl, trivial⟩ (.region ?_))))
        refine .p rfl rfl (.loadA (n := 3) rfl rfl rfl rfl rfl (B6.ext (S := fun _ => False) (by repeat (first | exact Ext.refl _ | assumption | refine Ext.trans (by assumption) ?_)) (fun x => x)).cells) ?_
        refine .p rfl rfl (.mv rfl) ?_
        refine .call (first := []) (captured := []) rfl rfl rfl rfl (Read0_fn (tDisk.ext0 R29 (by repeat (first | exact Ext.refl _ | assumption | refine Ext.trans (by assumption) ?_))) (asked_of (check_settle hc _) (by omega) (by show (i : Int) < d.count; omega))) ?_
        rintro _ w67 ⟨s67, rfl, R67, X67⟩
        have z67 := X67.size
        refine .p rfl rfl (.mv rfl) ?_
        refine .p rfl rfl (.extract rfl rfl) ?_
        refine .p rfl rfl (.extract rfl rfl) ?_
        refine .p rfl rfl (.as rfl) ?_
        refine .p rfl rfl (.as rfl) ?_
        refine .nil (.code (.seq (.keep [(12, _), (11, _), (9, _), (2, _), (5, _), (6, _), (8, _)] ⟨rfl, rfl, rfl, rfl, rfl, rfl, rfl, trivial⟩ (.region ?_))))
        refine .p rfl rfl (.mv rfl) ?_
        refine .p rfl rfl (.bytesStr rfl (tBytes.ext0 R67 (by repeat (first | exact Ext.refl _ | assumption | refine Ext.trans (by assumption) ?_))) rfl rfl rfl) ?_
        refine .p rfl rfl (.mv rfl) ?_
        refine .p rfl rfl (.bytesStr rfl (tBytes.ext0 R61 (by repeat (first | exact Ext.refl _ | assumption | refine Ext.trans (by assumption) ?_))) rfl rfl rfl) ?_
        refine .p rfl rfl (.eqS rfl rfl) ?_
        refine .p rfl rfl (.as rfl) ?_
        refine .nil (.code (.seq (.seq (.keep [(13, _), (12, _), (11, _), (2, _), (5, _), (6, _), (8, _)] ⟨rfl, rfl, rfl, rfl, rfl, rfl, rfl, trivial⟩ (.region ?_)))))
        refine .p rfl rfl (.as rfl) ?_
        refine .nil (.code (.block ?_))
        refine .loop (S := Nat × Bool) (fun s => [(2, .pointer (some ⟨w.heap.size, 0, none⟩)), (5, .bool true), (6, .pointer (some ⟨w29.heap.size, 0, none⟩)), (8, i64 i), (11, s67), (12, i64 0), (13, .bool s.2), (14, i64 s.1)]) (fun s => w67) (fun s => s.1 ≤ d.waits.length ∧ (s.2 = false → ¬ readF (settleD d (fun i => ks.getD i false)) (i : Int) = secOf d.data (i : Int).toNat ∧ ∀ j (hj : j < d.waits.length), j < s.1 → ¬ (d.waits[j].sector = (i : Int) ∧ d.waits[j].data = readF (settleD d (fun i => ks.getD i false)) (i : Int)))) (fun s => d.waits.length - s.1) (0, decide (readF (settleD d (fun i => ks.getD i false)) (i : Int) = secOf d.data (i : Int).toNat)) ⟨rfl, rfl, rfl, rfl, rfl, rfl, rfl, rfl, trivial⟩ rfl ⟨Nat.zero_le _, fun h => ⟨of_decide_eq_false h, fun j hj h => absurd h (Nat.not_lt_zero _)⟩⟩ ?_
        rintro ⟨j, q⟩ J2 ⟨hj', hI⟩ again2
        simp only at hj' hI
        change G _ [(2, .pointer (some ⟨w.heap.size, 0, none⟩)), (5, .bool true), (6, .pointer (some ⟨w29.heap.size, 0, none⟩)), (8, i64 i), (11, s67), (12, i64 0), (13, .bool q), (14, i64 j)] _ _ w67
        refine .seq (.seq (.region ?_))
        refine .p rfl rfl (.mv rfl) ?_
        refine .p rfl rfl (.fieldAddr rfl rfl rfl rfl) ?_
        refine .p rfl rfl (.load rfl rfl rfl ((B2.ext (S := fun _ => False) (by repeat (first | exact Ext.refl _ | assumption | refine Ext.trans (by assumption) ?_)) (fun x => x)).cell 2)) ?_
        refine .p rfl rfl (.len rfl rfl) ?_
        refine .p rfl rfl (.lt rfl rfl) ?_
        refine .nil (.code (.keep [(79, _), (2, _), (5, _), (6, _), (8, _), (11, _), (12, _), (13, _), (14, _)] ⟨rfl, rfl, rfl, rfl, rfl, rfl, rfl, rfl, rfl, trivial⟩ ?_))
        refine .condD rfl (fun c79 => ?_) (fun c79 => ?_)
        · have hjl : j < d.waits.length := by omega
          obtain ⟨b1, o1, c1, ue, e, _, hcs, hre⟩ := Sl.at hw (List.getElem?_eq_getElem hjl)
          cases e
          obtain ⟨ud, rfl, hud, hs1, hs2⟩ := tPut.val hre
          obtain ⟨ad, capd, rfl, _⟩ := Sl.val hud
          have hcs' : Cells w67 _ _ _ := hcs.ext (S := fun _ => False) (by repeat (first | exact Ext.refl _ | assumption | refine Ext.trans (by assumption) ?_)) (fun x => x)
          refine .skip (.code (.seq (.block (.keep [(2, _), (5, _), (6, _), (8, _), (11, _), (12, _), (13, _), (14, _)] ⟨rfl, rfl, rfl, rfl, rfl, rfl, rfl, rfl, trivial⟩ (.draws (by kernel_rfl) (by kernel_rfl) ?_)))))
          refine .p rfl rfl (.mv rfl) ?_
          refine .p rfl rfl (.mv rfl) ?_
          refine .case 83 rfl (fun c83 => ?_) (fun c83 => ?_)
          · refine .skip rfl rfl ?_
            refine .skip rfl rfl ?_
            refine .skip rfl rfl ?_
            refine .skip rfl rfl ?_
            refine .skip rfl rfl ?_
            refine .skip rfl rfl ?_
            refine .skip rfl rfl ?_
            refine .skip rfl rfl ?_
            refine .skip rfl rfl ?_
            refine .skip rfl rfl ?_
            refine .skip rfl rfl ?_
            refine .skip rfl rfl ?_
            refine .skip rfl rfl ?_
            refine .skip rfl rfl ?_
            refine .skip rfl rfl ?_
            refine .skip rfl rfl ?_
            refine .skip rfl rfl ?_
            refine .skip rfl rfl ?_
            refine .skip rfl rfl ?_
            refine .skip rfl rfl ?_
            refine .p rfl rfl (.pickT rfl rfl) ?_
            refine .p rfl rfl (.as rfl) ?_
            refine .nil (.blk (.code (.keep [(13, _), (2, _), (5, _), (6, _), (8, _), (11, _), (12, _), (14, _)] ⟨rfl, rfl, rfl, rfl, rfl, rfl, rfl, rfl, trivial⟩ (.region ?_))))
            refine .p rfl rfl (.mv rfl) ?_
            refine .p rfl rfl (.add rfl rfl (by omega)) ?_
            refine .p rfl rfl (.as rfl) ?_
            refine .nil ?_
            exact (again2 (j + 1, true) ⟨by show j + 1 ≤ _; omega, fun h => by cases h⟩ (by show _ - (j + 1) < _ - j; omega)).of ⟨rfl, rfl, rfl, rfl, rfl, rfl, rfl, rfl, trivial⟩
          · refine .p rfl rfl (.fieldAddr rfl rfl rfl rfl) ?_
            refine .p rfl rfl (.load rfl rfl rfl ((B2.ext (S := fun _ => False) (by repeat (first | exact Ext.refl _ | assumption | refine Ext.trans (by assumption) ?_)) (fun x => x)).cell 2)) ?_
            refine .p rfl rfl (.mv rfl) ?_
            refine .p rfl rfl (.indexAddr (s := 2) rfl rfl rfl rfl (by omega)) ?_
            refine .p rfl rfl (.fieldAddr rfl rfl rfl rfl) ?_
            refine .p rfl rfl (.load rfl rfl rfl (hcs' 0 _ rfl)) ?_
            refine .p rfl rfl (.mv rfl) ?_
            refine .p rfl rfl (.eq rfl rfl) ?_
            refine .p rfl rfl (.mv rfl) ?_
            refine .caseD 92 rfl (fun c92 => ?_) (fun c92 => ?_)
            · refine .p rfl rfl (.fieldAddr rfl rfl rfl rfl) ?_
              refine .p rfl rfl (.load rfl rfl rfl ((B2.ext (S := fun _ => False) (by repeat (first | exact Ext.refl _ | assumption | refine Ext.trans (by assumption) ?_)) (fun x => x)).cell 2)) ?_
              refine .p rfl rfl (.mv rfl) ?_
              refine .p rfl rfl (.indexAddr (s := 2) rfl rfl rfl rfl (by omega)) ?_
              refine .p rfl rfl (.fieldAddr rfl rfl rfl rfl) ?_
              refine .p rfl rfl (.load rfl rfl rfl (hcs' 1 _ rfl)) ?_
              refine .p rfl rfl (.bytesStr rfl (tBytes.ext0 hud (by repeat (first | exact Ext.refl _ | assumption | refine Ext.trans (by assumption) ?_))) rfl rfl rfl) ?_
              refine .p rfl rfl (.mv rfl) ?_
              refine .p rfl rfl (.bytesStr rfl (tBytes.ext0 R67 (by repeat (first | exact Ext.refl _ | assumption | refine Ext.trans (by assumption) ?_))) rfl rfl rfl) ?_
              refine .p rfl rfl (.eqS rfl rfl) ?_
              refine .p rfl rfl (.pickT rfl rfl) ?_
              refine .p rfl rfl (.pickF rfl rfl) ?_
              refine .p rfl rfl (.as rfl) ?_
              refine .nil (.blk (.code (.keep [(13, _), (2, _), (5, _), (6, _), (8, _), (11, _), (12, _), (14, _)] ⟨rfl, rfl, rfl, rfl, rfl, rfl, rfl, rfl, trivial⟩ (.region ?_))))
              refine .p rfl rfl (.mv rfl) ?_
              refine .p rfl rfl (.add rfl rfl (by omega)) ?_
              refine .p rfl rfl (.as rfl) ?_
              refine .nil ?_
              exact (again2 (j + 1, _) ⟨by show j + 1 ≤ _; omega, fun h => ⟨(hI c83).1, fun a ha hlt => by
                rcases Nat.lt_or_ge a j with h2 | h2
                · exact (hI c83).2 a ha h2
                · have : a = j := by have hlt : a < j + 1 := hlt; omega
                  subst this
                  exact fun h3 => (of_decide_eq_false h) h3.2⟩⟩ (by show _ - (j + 1) < _ - j; omega)).of ⟨rfl, rfl, rfl, rfl, rfl, rfl, rfl, rfl, trivial⟩
            · refine .skip rfl rfl ?_
              refine .skip rfl rfl ?_
              refine .skip rfl rfl ?_
              refine .skip rfl rfl ?_
              refine .skip rfl rfl ?_
              refine .skip rfl rfl ?_
              refine .skip rfl rfl ?_
              refine .skip rfl rfl ?_
              refine .skip rfl rfl ?_
              refine .skip rfl rfl ?_
              refine .p rfl rfl (.pickF rfl rfl) ?_
              refine .p rfl rfl (.pickF rfl rfl) ?_
              refine .p rfl rfl (.as rfl) ?_
              refine .nil (.blk (.code (.keep [(13, _), (2, _), (5, _), (6, _), (8, _), (11, _), (12, _), (14, _)] ⟨rfl, rfl, rfl, rfl, rfl, rfl, rfl, rfl, trivial⟩ (.region ?_))))
              refine .p rfl rfl (.mv rfl) ?_
              refine .p rfl rfl (.add rfl rfl (by omega)) ?_
              refine .p rfl rfl (.as rfl) ?_
              refine .nil ?_
              exact (again2 (j + 1, false) ⟨by show j + 1 ≤ _; omega, fun h => ⟨(hI c83).1, fun a ha hlt => by
                rcases Nat.lt_or_ge a j with h2 | h2
                · exact (hI c83).2 a ha h2
                · have : a = j := by have hlt : a < j + 1 := hlt; omega
                  subst this
                  exact fun h3 => c92 h3.1⟩⟩ (by show _ - (j + 1) < _ - j; omega)).of ⟨rfl, rfl, rfl, rfl, rfl, rfl, rfl, rfl, trivial⟩
        · refine .exit rfl (.code (.seq (.keep [(2, _), (5, _), (6, _), (8, _), (12, _), (13, _)] ⟨rfl, rfl, rfl, rfl, rfl, rfl, trivial⟩ (.region ?_))))
          refine .p rfl rfl (.mv rfl) ?_
          refine .p rfl rfl (.no (.ne rfl rfl) (fun h => h rfl)) ?_
          refine .p rfl rfl (.mv rfl) ?_
          refine .p rfl rfl (.mv rfl) ?_
          refine .p rfl rfl (.not rfl) ?_
          refine .p rfl rfl (.pickF rfl rfl) ?_
          refine .nil (.code (.keep [(110, _), (2, _), (5, _), (6, _), (8, _)] ⟨rfl, rfl, rfl, rfl, rfl, trivial⟩ ?_))
          refine .cond rfl (fun c110 => ?_) (fun c110 => ?_)
          · have hq : q = false := by cases q <;> simp_all
            obtain ⟨n1, n2⟩ := hI hq
            have hs := settled_sec hc (fun i => ks.getD i false) (n := i) (by omega) d.waits.length
            rcases lastK_or d (fun i => ks.getD i false) i d.waits.length with hl | ⟨i0, p0, h1, h2, h3⟩
            · exact absurd (by rw [readF_settle]; exact hs.trans hl) n1
            · obtain ⟨h4, h5⟩ := List.getElem?_eq_some_iff.1 h1
              exact absurd ⟨by rw [h5]; exact h2, by rw [h5, h3, readF_settle]; exact hs.symm⟩ (n2 i0 h4 (by omega))
          · refine .skip (.blk (.code (.keep [(2, _), (5, _), (6, _), (8, _)] ⟨rfl, rfl, rfl, rfl, trivial⟩ (.region ?_))))
            refine .p rfl rfl (.mv rfl) ?_
            refine .p rfl rfl (.add rfl rfl (by omega)) ?_
            refine .p rfl rfl (.as rfl) ?_
            refine .nil ?_
            exact (again (i + 1, w67) ⟨by show ((i + 1 : Nat) : Int) ≤ d.count; omega, hX.trans (X61.trans X67)⟩ (by show _ - (i + 1) < _ - i; omega)).of ⟨rfl, rfl, rfl, rfl, trivial⟩
      · refine .exit rfl (.code (.seq (.keep [(5, _)] ⟨rfl, trivial⟩ (.region ?_))))
        refine .p rfl rfl (.mv rfl) ?_
        refine .p rfl rfl (.as rfl) ?_
        refine .nil (.code ?_)
        refine .ret _ rfl ?_
        exact ⟨rfl, (by repeat (first | exact Ext.refl _ | assumption | refine Ext.trans (by assumption) ?_))⟩
end Go.Proofs.Ytfgjpiemnfefmaa
