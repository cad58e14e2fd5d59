/-
  DiskDoes: walked.
-/
import Derived.Test.YtfgjpiemnfefmaaLaw02a
set_option linter.unusedVariables false
set_option linter.unusedSimpArgs false
set_option maxRecDepth 20000
namespace Go.Proofs.Ytfgjpiemnfefmaa
open Go disk
theorem DiskDoes_fn {w : World} {v vo vl vk : Value} {d o : Disk} {l : List disk.Act} {ks : List Bool} (h : tDisk.rep All w v d) (ho : tDisk.rep All w vo o) (hl : (Sl tAct).rep All w vl l) (hk : (Sl tBool).rep All w vk ks) : Fn Try.prog 3 [v, vo, vl, vk] w (fun r w2 => r = .bool true ∧ Ext (fun _ => False) w w2) := by
  have R4 := tDisk.mono h (P' := fun k => k < w.heap.size) (fun k _ h => h)
  obtain ⟨u1, q1, u2, q2, rfl⟩ := tDisk.shape h
  obtain ⟨u3, q3, u4, q4, rfl⟩ := tDisk.shape ho
  obtain ⟨al, capl, rfl, hcapl⟩ := Sl.val hl
  obtain ⟨ak, capk, rfl, hcapk⟩ := Sl.val hk
  have hlimA := Sl.lim hl
  simp only [Lim] at hlimA
  refine Fn.enter (fun w => Try.call3 _ w) Try.func3 rfl ?_
  refine .seq (.region ?_)
  refine .v rfl rfl (.box rfl) ?_
  rintro _ w4 ⟨rfl, N4⟩
  have X4 := N4.ext
  have z4 : w4.heap.size = w.heap.size + 1 := N4.size
  have B4 := N4.blk
  refine .v rfl rfl (.box rfl) ?_
  rintro _ w5 ⟨rfl, N5⟩
  have B5 := N5.blk
  have z5 : w5.heap.size = w4.heap.size + 1 := N5.size
  have X5 := X4.trans N5.ext
  clear X4
  have B4 := B4.ext N5.ext (fun x => x)
  refine .p rfl rfl (.as rfl) ?_
  refine .nil (.code (.seq (.seq (.keep [(5, _), (4, _), (2, _), (3, _)] ⟨rfl, rfl, rfl, rfl, trivial⟩ ?_))))
  refine .meet (S := Bool × World) (fun s => [(2, .slice al l.length capl), (3, .slice ak ks.length capk), (4, .pointer (some ⟨w.heap.size, 0, none⟩)), (5, .pointer (some ⟨w4.heap.size, 0, none⟩)), (38, .bool s.1)]) (fun s => s.2) (fun s => Ext (fun _ => False) w5 s.2 ∧ (s.1 = false → largeB d = false ∧ l.length ≤ 300)) ?_ ?_
  · rintro ⟨q, w27⟩ ⟨X27, hq⟩
    simp only at X27 hq
    have z27 := X27.size
    change A _ _ _ w27
    refine .code ?_
    refine .cond rfl (fun c38 => ?_) (fun c38 => ?_)
    · refine .seq (.keep [] trivial (.region ?_))
      refine .p rfl rfl (.as rfl) ?_
      refine .nil (.code ?_)
      refine .ret _ rfl ?_
      exact ⟨rfl, X5.trans X27⟩
    · obtain ⟨hlg, hbl⟩ := hq c38
      obtain ⟨hl1, hl2⟩ := large_not hlg
      refine .skip (.code (.seq (.seq (.keep [(2, _), (3, _), (4, _), (5, _)] ⟨rfl, rfl, rfl, rfl, trivial⟩ (.region ?_)))))
      refine .p rfl rfl (.as rfl) ?_
      refine .nil (.code (.block ?_))
      refine .loop (S := Nat) (fun s => [(2, .slice al l.length capl), (3, .slice ak ks.length capk), (4, .pointer (some ⟨w.heap.size, 0, none⟩)), (5, .pointer (some ⟨w4.heap.size, 0, none⟩)), (9, i64 s)]) (fun s => w27) (fun s => s ≤ l.length) (fun s => l.length - s) 0 ⟨rfl, rfl, rfl, rfl, rfl, trivial⟩ rfl (Nat.zero_le _) ?_
      rintro i J hi' again
      refine .seq (.seq (.region ?_))
      refine .p rfl rfl (.mv rfl) ?_
      refine .p rfl rfl (.mv rfl) ?_
      refine .p rfl rfl (.len rfl rfl) ?_
      refine .p rfl rfl (.lt rfl rfl) ?_
      refine .nil (.code (.keep [(42, _), (2, _), (3, _), (4, _), (5, _), (9, _)] ⟨rfl, rfl, rfl, rfl, rfl, rfl, trivial⟩ ?_))
      refine .condD rfl (fun c42 => ?_) (fun c42 => ?_)
      · have hil : i < l.length := by omega
        obtain ⟨ba, oa, ca, ue, e, _, hcs, hre⟩ := Sl.at hl (List.getElem?_eq_getElem hil)
        cases e
        obtain ⟨ud, rfl, hud, hs1, hs2⟩ := tAct.val hre
        obtain ⟨ad, capd, rfl, _⟩ := Sl.val hud
        have hcs' := hcs.ext (X5.trans X27) (fun x => x)
        refine .skip (.code (.seq (.block (.seq (.keep [(2, _), (3, _), (4, _), (5, _), (9, _)] ⟨rfl, rfl, rfl, rfl, rfl, trivial⟩ (.region ?_))))))
        refine .p rfl rfl (.mv rfl) ?_
        refine .p rfl rfl (.mv rfl) ?_
        refine .p rfl rfl (.indexAddr (s := 3) rfl rfl rfl rfl (by omega)) ?_
        refine .p rfl rfl (.fieldAddr rfl rfl rfl rfl) ?_
        refine .p rfl rfl (.fieldAddr rfl rfl rfl rfl) ?_
        refine .p rfl rfl (.load rfl rfl rfl (hcs' 2 _ rfl)) ?_
        refine .p rfl rfl (.len rfl rfl) ?_
        refine .p rfl rfl (.gt rfl rfl) ?_
        refine .nil (.code (.keep [(52, _), (2, _), (3, _), (4, _), (5, _), (9, _)] ⟨rfl, rfl, rfl, rfl, rfl, rfl, trivial⟩ ?_))
        refine .condD rfl (fun c52 => ?_) (fun c52 => ?_)
        · refine .seq (.keep [] trivial (.region ?_))
          refine .p rfl rfl (.as rfl) ?_
          refine .nil (.code ?_)
          refine .ret _ rfl ?_
          exact ⟨rfl, X5.trans X27⟩
        · refine .skip (.blk (.code (.keep [(2, _), (3, _), (4, _), (5, _), (9, _)] ⟨rfl, rfl, rfl, rfl, rfl, trivial⟩ (.region ?_))))
          refine .p rfl rfl (.mv rfl) ?_
          refine .p rfl rfl (.add rfl rfl (by omega)) ?_
          refine .p rfl rfl (.as rfl) ?_
          refine .nil ?_
          exact (again (i + 1) (by show i + 1 ≤ _; omega) (by show _ - (i + 1) < _ - i; omega)).of ⟨rfl, rfl, rfl, rfl, rfl, trivial⟩
      · refine .exit rfl (.code (.seq (.keep [(2, _), (3, _), (4, _), (5, _)] ⟨rfl, rfl, rfl, rfl, trivial⟩ (.region ?_))))
        refine .p rfl rfl (.loadA (n := 3) rfl rfl rfl rfl rfl (B4.ext (S := fun _ => False) (by repeat (first | exact Ext.refl _ | assumption | refine Ext.trans (by assumption) ?_)) (fun x => x)).cells) ?_
        refine .call (first := []) (captured := []) rfl rfl rfl rfl (refTwin_fn (tDisk.ext0 h (by repeat (first | exact Ext.refl _ | assumption | refine Ext.trans (by assumption) ?_))) (by omega)) ?_
        rintro r54 w54 ⟨D54, X54⟩
        have z54 := X54.size
        obtain ⟨x1, y1, x2, y2, rfl⟩ := D54.val
        have R54 := tDisk.mono D54.rep (P' := fun k => k < w54.heap.size) (fun k _ h => h)
        refine .v rfl rfl (.alloc rfl rfl) ?_
        rintro _ wn10 ⟨rfl, N10⟩
        refine .s rfl (.storeAll (n := 3) rfl rfl rfl rfl rfl N10.blk rfl) ?_
        intro w8 P10
        have X10 := N10.ext.then P10.ext (by rintro k rfl _; exact Nat.le_refl _)
        have z10 := X10.size
        have B10 := P10.blk
        have l10 := B10.lt
        clear N10 P10
        refine .nil (.code (.seq (.keep [(10, _), (2, _), (3, _), (4, _), (5, _)] ⟨rfl, rfl, rfl, rfl, rfl, trivial⟩ (.region ?_))))
        refine .p rfl rfl (.loadA (n := 3) rfl rfl rfl rfl rfl (B10.ext (S := fun _ => False) (by repeat (first | exact Ext.refl _ | assumption | refine Ext.trans (by assumption) ?_)) (fun x => x)).cells) ?_
        refine .p rfl rfl (.mv rfl) ?_
        refine .call (first := []) (captured := []) rfl rfl rfl rfl (Do_fn (allOf (tDisk.ext0 D54.rep (by repeat (first | exact Ext.refl _ | assumption | refine Ext.trans (by assumption) ?_)))) ((Sl tAct).ext0 hl (by repeat (first | exact Ext.refl _ | assumption | refine Ext.trans (by assumption) ?_)))) ?_
        rintro _ w58 ⟨v58, rfl, D58, X58⟩
        have z58 := X58.size
        obtain ⟨x58, y58, p58, q58, rfl⟩ := D58.val
        refine .p rfl rfl (.mv rfl) ?_
        refine .p rfl rfl (.extract rfl rfl) ?_
        refine .p rfl rfl (.extract rfl rfl) ?_
        refine .v rfl rfl (.alloc rfl rfl) ?_
        rintro _ wn11 ⟨rfl, N11⟩
        refine .s rfl (.storeAll (n := 3) rfl rfl rfl rfl rfl N11.blk rfl) ?_
        intro w9 P11
        have X11 := N11.ext.then P11.ext (by rintro k rfl _; exact Nat.le_refl _)
        have z11 := X11.size
        have B11 := P11.blk
        have l11 := B11.lt
        clear N11 P11
        refine .p rfl rfl (.as rfl) ?_
        refine .nil (.code (.seq (.keep [(12, _), (11, _), (10, _), (2, _), (3, _), (4, _), (5, _)] ⟨rfl, rfl, rfl, rfl, rfl, rfl, rfl, trivial⟩ (.region ?_))))
        refine .p rfl rfl (.loadA (n := 3) rfl rfl rfl rfl rfl (B4.ext (S := fun _ => False) (by repeat (first | exact Ext.refl _ | assumption | refine Ext.trans (by assumption) ?_)) (fun x => x)).cells) ?_
        refine .p rfl rfl (.mv rfl) ?_
        refine .call (first := []) (captured := []) rfl rfl rfl rfl (refDo_fn (tDisk.ext0 h (by repeat (first | exact Ext.refl _ | assumption | refine Ext.trans (by assumption) ?_))) ((Sl tAct).ext0 hl (by repeat (first | exact Ext.refl _ | assumption | refine Ext.trans (by assumption) ?_)))) ?_
        rintro _ w64 ⟨v64, rfl, R64, X64⟩
        have z64 := X64.size
        obtain ⟨x64, y64, p64, q64, rfl⟩ := tDisk.shape R64
        refine .p rfl rfl (.mv rfl) ?_
        refine .p rfl rfl (.extract rfl rfl) ?_
        refine .p rfl rfl (.extract rfl rfl) ?_
        refine .v rfl rfl (.alloc rfl rfl) ?_
        rintro _ wn13 ⟨rfl, N13⟩
        refine .s rfl (.storeAll (n := 3) rfl rfl rfl rfl rfl N13.blk rfl) ?_
        intro w10 P13
        have X13 := N13.ext.then P13.ext (by rintro k rfl _; exact Nat.le_refl _)
        have z13 := X13.size
        have B13 := P13.blk
        have l13 := B13.lt
        clear N13 P13
        refine .p rfl rfl (.as rfl) ?_
        refine .nil (.code (.seq (.keep [(14, _), (13, _), (12, _), (11, _), (10, _), (3, _), (4, _), (5, _)] ⟨rfl, rfl, rfl, rfl, rfl, rfl, rfl, rfl, trivial⟩ (.region ?_))))
        refine .p rfl rfl (.loadA (n := 3) rfl rfl rfl rfl rfl (B10.ext (S := fun _ => False) (by repeat (first | exact Ext.refl _ | assumption | refine Ext.trans (by assumption) ?_)) (fun x => x)).cells) ?_
        refine .call (first := []) (captured := []) rfl rfl rfl rfl (Flush_fn (allOf (tDisk.ext0 D54.rep (by repeat (first | exact Ext.refl _ | assumption | refine Ext.trans (by assumption) ?_))))) ?_
        rintro _ w69 ⟨v69, rfl, D69, X69⟩
        have z69 := X69.size
        obtain ⟨x69, y69, p69, q69, rfl⟩ := D69.val
        refine .p rfl rfl (.mv rfl) ?_
        refine .p rfl rfl (.extract rfl rfl) ?_
        refine .p rfl rfl (.extract rfl rfl) ?_
        refine .v rfl rfl (.alloc rfl rfl) ?_
        rintro _ wn15 ⟨rfl, N15⟩
        refine .s rfl (.storeAll (n := 3) rfl rfl rfl rfl rfl N15.blk rfl) ?_
        intro w11 P15
        have X15 := N15.ext.then P15.ext (by rintro k rfl _; exact Nat.le_refl _)
        have z15 := X15.size
        have B15 := P15.blk
        have l15 := B15.lt
        clear N15 P15
        refine .p rfl rfl (.as rfl) ?_
        refine .nil (.code (.seq (.keep [(16, _), (15, _), (14, _), (13, _), (12, _), (11, _), (10, _), (3, _), (4, _), (5, _)] ⟨rfl, rfl, rfl, rfl, rfl, rfl, rfl, rfl, rfl, rfl, trivial⟩ (.region ?_))))
        refine .p rfl rfl (.loadA (n := 3) rfl rfl rfl rfl rfl (B4.ext (S := fun _ => False) (by repeat (first | exact Ext.refl _ | assumption | refine Ext.trans (by assumption) ?_)) (fun x => x)).cells) ?_
        refine .call (first := []) (captured := []) rfl rfl rfl rfl (refFlush_fn (tDisk.ext0 h (by repeat (first | exact Ext.refl _ | assumption | refine Ext.trans (by assumption) ?_)))) ?_
        rintro _ w74 ⟨v74, rfl, R74, X74⟩
        have z74 := X74.size
        obtain ⟨x74, y74, p74, q74, rfl⟩ := tDisk.shape R74
        refine .p rfl rfl (.mv rfl) ?_
        refine .p rfl rfl (.extract rfl rfl) ?_
        refine .p rfl rfl (.extract rfl rfl) ?_
        refine .v rfl rfl (.alloc rfl rfl) ?_
        rintro _ wn17 ⟨rfl, N17⟩
        refine .s rfl (.storeAll (n := 3) rfl rfl rfl rfl rfl N17.blk rfl) ?_
        intro w12 P17
        have X17 := N17.ext.then P17.ext (by rintro k rfl _; exact Nat.le_refl _)
        have z17 := X17.size
        have B17 := P17.blk
        have l17 := B17.lt
        clear N17 P17
        refine .p rfl rfl (.as rfl) ?_
        refine .nil (.code (.seq (.keep [(18, _), (17, _), (16, _), (15, _), (14, _), (13, _), (12, _), (11, _), (10, _), (3, _), (4, _), (5, _)] ⟨rfl, rfl, rfl, rfl, rfl, rfl, rfl, rfl, rfl, rfl, rfl, rfl, trivial⟩ (.region ?_))))
        refine .p rfl rfl (.loadA (n := 3) rfl rfl rfl rfl rfl (B10.ext (S := fun _ => False) (by repeat (first | exact Ext.refl _ | assumption | refine Ext.trans (by assumption) ?_)) (fun x => x)).cells) ?_
        refine .p rfl rfl (.mv rfl) ?_
        refine .call (first := []) (captured := []) rfl rfl rfl rfl (Crash_fn (allOf (tDisk.ext0 D54.rep (by repeat (first | exact Ext.refl _ | assumption | refine Ext.trans (by assumption) ?_)))) ((Sl tBool).ext0 hk (by repeat (first | exact Ext.refl _ | assumption | refine Ext.trans (by assumption) ?_)))) ?_
        rintro _ w80 ⟨v80, rfl, D80, X80⟩
        have z80 := X80.size
        obtain ⟨x80, y80, p80, q80, rfl⟩ := D80.val
        refine .p rfl rfl (.mv rfl) ?_
        refine .p rfl rfl (.extract rfl rfl) ?_
        refine .p rfl rfl (.extract rfl rfl) ?_
        refine .v rfl rfl (.alloc rfl rfl) ?_
        rintro _ wn19 ⟨rfl, N19⟩
        refine .s rfl (.storeAll (n := 3) rfl rfl rfl rfl rfl N19.blk rfl) ?_
        intro w13 P19
        have X19 := N19.ext.then P19.ext (by rintro k rfl _; exact Nat.le_refl _)
        have z19 := X19.size
        have B19 := P19.blk
        have l19 := B19.lt
        clear N19 P19
        refine .p rfl rfl (.as rfl) ?_
        refine .nil (.code (.seq (.keep [(20, _), (19, _), (18, _), (17, _), (16, _), (15, _), (14, _), (13, _), (12, _), (11, _), (10, _), (3, _), (4, _), (5, _)] ⟨rfl, rfl, rfl, rfl, rfl, rfl, rfl, rfl, rfl, rfl, rfl, rfl, rfl, rfl, trivial⟩ (.region ?_))))
        refine .p rfl rfl (.loadA (n := 3) rfl rfl rfl rfl rfl (B4.ext (S := fun _ => False) (by repeat (first | exact Ext.refl _ | assumption | refine Ext.trans (by assumption) ?_)) (fun x => x)).cells) ?_
        refine .p rfl rfl (.mv rfl) ?_
        refine .call (first := []) (captured := []) rfl rfl rfl rfl (refCrash_fn (tDisk.ext0 h (by repeat (first | exact Ext.refl _ | assumption | refine Ext.trans (by assumption) ?_))) ((Sl tBool).ext0 hk (by repeat (first | exact Ext.refl _ | assumption | refine Ext.trans (by assumption) ?_)))) ?_
        rintro _ w86 ⟨v86, rfl, R86, X86⟩
        have z86 := X86.size
        obtain ⟨x86, y86, p86, q86, rfl⟩ := tDisk.shape R86
        refine .p rfl rfl (.mv rfl) ?_
        refine .p rfl rfl (.extract rfl rfl) ?_
        refine .p rfl rfl (.extract rfl rfl) ?_
        refine .v rfl rfl (.alloc rfl rfl) ?_
        rintro _ wn21 ⟨rfl, N21⟩
        refine .s rfl (.storeAll (n := 3) rfl rfl rfl rfl rfl N21.blk rfl) ?_
        intro w14 P21
        have X21 := N21.ext.then P21.ext (by rintro k rfl _; exact Nat.le_refl _)
        have z21 := X21.size
        have B21 := P21.blk
        have l21 := B21.lt
        clear N21 P21
        refine .p rfl rfl (.as rfl) ?_
        refine .nil (.code (.seq (.seq (.keep [(22, _), (21, _), (20, _), (19, _), (18, _), (17, _), (16, _), (15, _), (14, _), (13, _), (12, _), (11, _), (10, _), (4, _), (5, _)] ⟨rfl, rfl, rfl, rfl, rfl, rfl, rfl, rfl, rfl, rfl, rfl, rfl, rfl, rfl, rfl, trivial⟩ (.mix (fun _ => False) [6, 17, 28, 34, 37, 43] (by kernel_rfl) (by kernel_rfl) (by kernel_rfl) ?_)))))
        refine .p rfl rfl rfl (fun wx hx => .mv rfl) ?_
        refine .p rfl rfl rfl (fun wx hx => .mv rfl) ?_
        refine .p rfl rfl rfl (fun wx hx => .no (.ne rfl rfl) (fun h => h rfl)) ?_
        refine .p rfl rfl rfl (fun wx hx => .mv rfl) ?_
        refine .p rfl rfl rfl (fun wx hx => .loadA (n := 3) rfl rfl rfl rfl rfl (B11.ext (S := fun _ => False) (Ext.trans (by repeat (first | exact Ext.refl _ | assumption | refine Ext.trans (by assumption) ?_)) hx) (fun x => x)).cells) ?_
        refine .p rfl rfl rfl (fun wx hx => .loadA (n := 3) rfl rfl rfl rfl rfl (B13.ext (S := fun _ => False) (Ext.trans (by repeat (first | exact Ext.refl _ | assumption | refine Ext.trans (by assumption) ?_)) hx) (fun x => x)).cells) ?_
        refine .call (first := []) (captured := []) rfl rfl rfl rfl rfl (refSameT_fn (allOf (tDisk.ext0 D58.rep (by repeat (first | exact Ext.refl _ | assumption | refine Ext.trans (by assumption) ?_)))) (allOf (tDisk.ext0 R64 (by repeat (first | exact Ext.refl _ | assumption | refine Ext.trans (by assumption) ?_))))) (by rintro _ _ ⟨_, hx⟩; exact Ext.trans (by repeat (first | exact Ext.refl _ | assumption | refine Ext.trans (by assumption) ?_)) hx) ?_
        rintro _ w95 ⟨rfl, X95⟩
        have z95 := X95.size
        refine .p rfl rfl rfl (fun wx hx => .not rfl) ?_
        refine .p rfl rfl rfl (fun wx hx => .pickF rfl rfl) ?_
        refine .p rfl rfl rfl (fun wx hx => .mv rfl) ?_
        refine .p rfl rfl rfl (fun wx hx => .mv rfl) ?_
        refine .p rfl rfl rfl (fun wx hx => .mv rfl) ?_
        refine .p rfl rfl rfl (fun wx hx => .no (.ne rfl rfl) (fun h => h rfl)) ?_
        refine .p rfl rfl rfl (fun wx hx => .pickF rfl rfl) ?_
        refine .p rfl rfl rfl (fun wx hx => .mv rfl) ?_
        refine .p rfl rfl rfl (fun wx hx => .loadA (n := 3) rfl rfl rfl rfl rfl (B15.ext (S := fun _ => False) (Ext.trans (by repeat (first | exact Ext.refl _ | assumption | refine Ext.trans (by assumption) ?_)) hx) (fun x => x)).cells) ?_
        refine .p rfl rfl rfl (fun wx hx => .loadA (n := 3) rfl rfl rfl rfl rfl (B17.ext (S := fun _ => False) (Ext.trans (by repeat (first | exact Ext.refl _ | assumption | refine Ext.trans (by assumption) ?_)) hx) (fun x => x)).cells) ?_
        refine .call (first := []) (captured := []) rfl rfl rfl rfl rfl (refSameT_fn (allOf (tDisk.ext0 D69.rep (by repeat (first | exact Ext.refl _ | assumption | refine Ext.trans (by assumption) ?_)))) (allOf (tDisk.ext0 R74 (by repeat (first | exact Ext.refl _ | assumption | refine Ext.trans (by assumption) ?_))))) (by rintro _ _ ⟨_, hx⟩; exact Ext.trans (by repeat (first | exact Ext.refl _ | assumption | refine Ext.trans (by assumption) ?_)) hx) ?_
        rintro _ w106 ⟨rfl, X106⟩
        have z106 := X106.size
        refine .p rfl rfl rfl (fun wx hx => .not rfl) ?_
        refine .p rfl rfl rfl (fun wx hx => .pickF rfl rfl) ?_
        refine .p rfl rfl rfl (fun wx hx => .mv rfl) ?_
        refine .p rfl rfl rfl (fun wx hx => .mv rfl) ?_
        refine .p rfl rfl rfl (fun wx hx => .mv rfl) ?_
        refine .p rfl rfl rfl (fun wx hx => .no (.ne rfl rfl) (fun h => h rfl)) ?_
        refine .p rfl rfl rfl (fun wx hx => .pickF rfl rfl) ?_
        refine .p rfl rfl rfl (fun wx hx => .mv rfl) ?_
        refine .p rfl rfl rfl (fun wx hx => .loadA (n := 3) rfl rfl rfl rfl rfl (B19.ext (S := fun _ => False) (Ext.trans (by repeat (first | exact Ext.refl _ | assumption | refine Ext.trans (by assumption) ?_)) hx) (fun x => x)).cells) ?_
        refine .p rfl rfl rfl (fun wx hx => .loadA (n := 3) rfl rfl rfl rfl rfl (B21.ext (S := fun _ => False) (Ext.trans (by repeat (first | exact Ext.refl _ | assumption | refine Ext.trans (by assumption) ?_)) hx) (fun x => x)).cells) ?_
        refine .call (first := []) (captured := []) rfl rfl rfl rfl rfl (refSameT_fn (allOf (tDisk.ext0 D80.rep (by repeat (first | exact Ext.refl _ | assumption | refine Ext.trans (by assumption) ?_)))) (allOf (tDisk.ext0 R86 (by repeat (first | exact Ext.refl _ | assumption | refine Ext.trans (by assumption) ?_))))) (by rintro _ _ ⟨_, hx⟩; exact Ext.trans (by repeat (first | exact Ext.refl _ | assumption | refine Ext.trans (by assumption) ?_)) hx) ?_
        rintro _ w117 ⟨rfl, X117⟩
        have z117 := X117.size
        refine .p rfl rfl rfl (fun wx hx => .not rfl) ?_
        refine .p rfl rfl rfl (fun wx hx => .pickF rfl rfl) ?_
        refine .p rfl rfl rfl (fun wx hx => .mv rfl) ?_
        refine .p rfl rfl rfl (fun wx hx => .loadA (n := 3) rfl rfl rfl rfl rfl (B4.ext (S := fun _ => False) (Ext.trans (by repeat (first | exact Ext.refl _ | assumption | refine Ext.trans (by assumption) ?_)) hx) (fun x => x)).cells) ?_
        refine .p rfl rfl rfl (fun wx hx => .loadA (n := 3) rfl rfl rfl rfl rfl (B5.ext (S := fun _ => False) (Ext.trans (by repeat (first | exact Ext.refl _ | assumption | refine Ext.trans (by assumption) ?_)) hx) (fun x => x)).cells) ?_
        refine .call (first := []) (captured := []) rfl rfl rfl rfl rfl (Same_fn (tDisk.ext0 h (by repeat (first | exact Ext.refl _ | assumption | refine Ext.trans (by assumption) ?_))) (tDisk.ext0 ho (by repeat (first | exact Ext.refl _ | assumption | refine Ext.trans (by assumption) ?_)))) (by rintro _ _ ⟨_, hx⟩; exact Ext.trans (by repeat (first | exact Ext.refl _ | assumption | refine Ext.trans (by assumption) ?_)) hx) ?_
        rintro _ w123 ⟨rfl, X123⟩
        have z123 := X123.size
        refine .p rfl rfl rfl (fun wx hx => .loadA (n := 3) rfl rfl rfl rfl rfl (B4.ext (S := fun _ => False) (Ext.trans (by repeat (first | exact Ext.refl _ | assumption | refine Ext.trans (by assumption) ?_)) hx) (fun x => x)).cells) ?_
        refine .p rfl rfl rfl (fun wx hx => .loadA (n := 3) rfl rfl rfl rfl rfl (B5.ext (S := fun _ => False) (Ext.trans (by repeat (first | exact Ext.refl _ | assumption | refine Ext.trans (by assumption) ?_)) hx) (fun x => x)).cells) ?_
        refine .call (first := []) (captured := []) rfl rfl rfl rfl rfl (refSame_fn (tDisk.ext0 h (by repeat (first | exact Ext.refl _ | assumption | refine Ext.trans (by assumption) ?_))) (tDisk.ext0 ho (by repeat (first | exact Ext.refl _ | assumption | refine Ext.trans (by assumption) ?_)))) (by rintro _ _ ⟨_, hx⟩; exact Ext.trans (by repeat (first | exact Ext.refl _ | assumption | refine Ext.trans (by assumption) ?_)) hx) ?_
        rintro _ w126 ⟨rfl, X126⟩
        have z126 := X126.size
        refine .p rfl rfl rfl (fun wx hx => .cast (.neB rfl rfl rfl) (show _ = Value.bool false by simp)) ?_
        refine .p rfl rfl rfl (fun wx hx => .pickF rfl rfl) ?_
        refine .p rfl rfl rfl (fun wx hx => .mv rfl) ?_
        refine .p rfl rfl rfl (fun wx hx => .loadA (n := 3) rfl rfl rfl rfl rfl (B10.ext (S := fun _ => False) (Ext.trans (by repeat (first | exact Ext.refl _ | assumption | refine Ext.trans (by assumption) ?_)) hx) (fun x => x)).cells) ?_
        refine .p rfl rfl rfl (fun wx hx => .loadA (n := 3) rfl rfl rfl rfl rfl (B10.ext (S := fun _ => False) (Ext.trans (by repeat (first | exact Ext.refl _ | assumption | refine Ext.trans (by assumption) ?_)) hx) (fun x => x)).cells) ?_
        refine .call (first := []) (captured := []) rfl rfl rfl rfl rfl (SameT_fn (allOf (tDisk.ext0 D54.rep (by repeat (first | exact Ext.refl _ | assumption | refine Ext.trans (by assumption) ?_)))) (allOf (tDisk.ext0 D54.rep (by repeat (first | exact Ext.refl _ | assumption | refine Ext.trans (by assumption) ?_))))) (by rintro _ _ ⟨_, hx⟩; exact Ext.trans (by repeat (first | exact Ext.refl _ | assumption | refine Ext.trans (by assumption) ?_)) hx) ?_
        rintro _ w132 ⟨rfl, X132⟩
        have z132 := X132.size
        refine .p rfl rfl rfl (fun wx hx => .not rfl) ?_
        refine .p rfl rfl rfl (fun wx hx => .pickF rfl rfl) ?_
        refine .nil (.code (.keep [(134, _), (19, _), (15, _), (11, _), (10, _), (4, _)] ⟨rfl, rfl, rfl, rfl, rfl, rfl, trivial⟩ (.condF rfl (.skip (.code (.seq (.keep [(19, _), (15, _), (11, _), (10, _), (4, _)] ⟨rfl, rfl, rfl, rfl, rfl, trivial⟩ (.region ?_))))))))
        refine .p rfl rfl (.loadA (n := 3) rfl rfl rfl rfl rfl (B11.ext (S := fun _ => False) (by repeat (first | exact Ext.refl _ | assumption | refine Ext.trans (by assumption) ?_)) (fun x => x)).cells) ?_
        refine .call (first := []) (captured := []) rfl rfl rfl rfl (spoil_fn ((D58.mono (P' := fun k => w8.heap.size ≤ k ∧ k < w58.heap.size) (fun k h1 h2 => ⟨h1, h2⟩)).ext0 (by repeat (first | exact Ext.refl _ | assumption | refine Ext.trans (by assumption) ?_)))) ?_
        rintro _ w136 ⟨rfl, Y136⟩
        have z136 := Y136.size
        refine .nil (.code (.seq (.keep [(19, _), (15, _), (10, _), (4, _)] ⟨rfl, rfl, rfl, rfl, trivial⟩ (.region ?_))))
        refine .p rfl rfl (.loadA (n := 3) rfl rfl rfl rfl rfl ((B15.ext (by repeat (first | exact Ext.refl _ | assumption | refine Ext.trans (by assumption) ?_)) (fun x => x)).ext Y136 (by rintro ⟨⟨h1, h2⟩, _⟩; omega)).cells) ?_
        refine .call (first := []) (captured := []) rfl rfl rfl rfl (spoil_fn (((D69.mono (P' := fun k => w10.heap.size ≤ k ∧ k < w69.heap.size) (fun k h1 h2 => ⟨h1, h2⟩)).ext0 (by repeat (first | exact Ext.refl _ | assumption | refine Ext.trans (by assumption) ?_))).ext Y136 (fun k h1 _ => by have h1 := h1.1; rintro ⟨⟨h2, h3⟩, _⟩; omega))) ?_
        rintro _ w138 ⟨rfl, Y138⟩
        have z138 := Y138.size
        refine .nil (.code (.seq (.keep [(19, _), (10, _), (4, _)] ⟨rfl, rfl, rfl, trivial⟩ (.region ?_))))
        refine .p rfl rfl (.loadA (n := 3) rfl rfl rfl rfl rfl (((B19.ext (by repeat (first | exact Ext.refl _ | assumption | refine Ext.trans (by assumption) ?_)) (fun x => x)).ext Y136 (by rintro ⟨⟨h1, h2⟩, _⟩; omega)).ext Y138 (by rintro ⟨⟨h1, h2⟩, _⟩; omega)).cells) ?_
        refine .call (first := []) (captured := []) rfl rfl rfl rfl (spoil_fn ((((D80.mono (P' := fun k => w12.heap.size ≤ k ∧ k < w80.heap.size) (fun k h1 h2 => ⟨h1, h2⟩)).ext0 (by repeat (first | exact Ext.refl _ | assumption | refine Ext.trans (by assumption) ?_))).ext Y136 (fun k h1 _ => by have h1 := h1.1; rintro ⟨⟨h2, h3⟩, _⟩; omega)).ext Y138 (fun k h1 _ => by have h1 := h1.1; rintro ⟨⟨h2, h3⟩, _⟩; omega))) ?_
        rintro _ w140 ⟨rfl, Y140⟩
        have z140 := Y140.size
        refine .nil (.code (.seq (.keep [(10, _), (4, _)] ⟨rfl, rfl, trivial⟩ (.region ?_))))
        refine .p rfl rfl (.loadA (n := 3) rfl rfl rfl rfl rfl ((((B10.ext (by repeat (first | exact Ext.refl _ | assumption | refine Ext.trans (by assumption) ?_)) (fun x => x)).ext Y136 (by rintro ⟨⟨h1, h2⟩, _⟩; omega)).ext Y138 (by rintro ⟨⟨h1, h2⟩, _⟩; omega)).ext Y140 (by rintro ⟨⟨h1, h2⟩, _⟩; omega)).cells) ?_
        refine .p rfl rfl (.loadA (n := 3) rfl rfl rfl rfl rfl ((((B4.ext (by repeat (first | exact Ext.refl _ | assumption | refine Ext.trans (by assumption) ?_)) (fun x => x)).ext Y136 (by rintro ⟨⟨h1, h2⟩, _⟩; omega)).ext Y138 (by rintro ⟨⟨h1, h2⟩, _⟩; omega)).ext Y140 (by rintro ⟨⟨h1, h2⟩, _⟩; omega)).cells) ?_
        refine .call (first := []) (captured := []) rfl rfl rfl rfl (refSameT_fn (allOf (tDisk.ext (tDisk.ext (tDisk.ext (tDisk.ext0 R54 (by repeat (first | exact Ext.refl _ | assumption | refine Ext.trans (by assumption) ?_))) Y136 (fun k hk _ => by rintro ⟨⟨h1, h2⟩, _⟩; omega)) Y138 (fun k hk _ => by rintro ⟨⟨h1, h2⟩, _⟩; omega)) Y140 (fun k hk _ => by rintro ⟨⟨h1, h2⟩, _⟩; omega))) (allOf (tDisk.ext (tDisk.ext (tDisk.ext (tDisk.ext0 R4 (by repeat (first | exact Ext.refl _ | assumption | refine Ext.trans (by assumption) ?_))) Y136 (fun k hk _ => by rintro ⟨⟨h1, h2⟩, _⟩; omega)) Y138 (fun k hk _ => by rintro ⟨⟨h1, h2⟩, _⟩; omega)) Y140 (fun k hk _ => by rintro ⟨⟨h1, h2⟩, _⟩; omega)))) ?_
        rintro _ w143 ⟨rfl, X143⟩
        refine .p rfl rfl (.as rfl) ?_
        refine .nil (.code ?_)
        refine .ret _ rfl ?_
        have Zf : Ext (fun _ => False) w w132 := (by repeat (first | exact Ext.refl _ | assumption | refine Ext.trans (by assumption) ?_))
        exact ⟨rfl, (((Zf.then Y136 (by rintro k ⟨⟨h1, h2⟩, _⟩ _; omega)).then Y138 (by rintro k ⟨⟨h1, h2⟩, _⟩ _; omega)).then Y140 (by rintro k ⟨⟨h1, h2⟩, _⟩ _; omega)).trans X143⟩
  · intro meet
    refine .region ?_
    refine .p rfl rfl (.loadA (n := 3) rfl rfl rfl rfl rfl (B4.ext (S := fun _ => False) (by repeat (first | exact Ext.refl _ | assumption | refine Ext.trans (by assumption) ?_)) (fun x => x)).cells) ?_
    refine .call (first := []) (captured := []) rfl rfl rfl rfl (large_fn (tDisk.ext0 h X5)) ?_
    rintro _ w24 ⟨rfl, X24⟩
    have z24 := X24.size
    refine .p rfl rfl (.mv rfl) ?_
    refine .case 25 rfl (fun c25 => ?_) (fun c25 => ?_)
    · refine .skip rfl rfl ?_
      refine .skip rfl rfl ?_
      refine .p rfl rfl (.pickT rfl rfl) ?_
      refine .p rfl rfl (.mv rfl) ?_
      refine .skip rfl rfl ?_
      refine .skip rfl rfl ?_
      refine .skip rfl rfl ?_
      refine .p rfl rfl (.pickT rfl rfl) ?_
      refine .p rfl rfl (.mv rfl) ?_
      refine .skip rfl rfl ?_
      refine .skip rfl rfl ?_
      refine .skip rfl rfl ?_
      refine .p rfl rfl (.pickT rfl rfl) ?_
      refine .nil ?_
      exact (meet (_, w24) ⟨X24, by intro hf; first | (cases hf; done) | exact ⟨c25, by omega⟩⟩).of ⟨rfl, rfl, rfl, rfl, rfl, trivial⟩
    · refine .p rfl rfl (.loadA (n := 3) rfl rfl rfl rfl rfl (B5.ext (S := fun _ => False) (by repeat (first | exact Ext.refl _ | assumption | refine Ext.trans (by assumption) ?_)) (fun x => x)).cells) ?_
      refine .call (first := []) (captured := []) rfl rfl rfl rfl (large_fn (tDisk.ext0 ho (X5.trans X24))) ?_
      rintro _ w27 ⟨rfl, X27⟩
      have z27 := X27.size
      refine .p rfl rfl (.pickF rfl rfl) ?_
      refine .p rfl rfl (.mv rfl) ?_
      refine .case 29 rfl (fun c29 => ?_) (fun c29 => ?_)
      · refine .skip rfl rfl ?_
        refine .skip rfl rfl ?_
        refine .skip rfl rfl ?_
        refine .p rfl rfl (.pickT rfl rfl) ?_
        refine .p rfl rfl (.mv rfl) ?_
        refine .skip rfl rfl ?_
        refine .skip rfl rfl ?_
        refine .skip rfl rfl ?_
        refine .p rfl rfl (.pickT rfl rfl) ?_
        refine .nil ?_
        exact (meet (_, w27) ⟨X24.trans X27, by intro hf; first | (cases hf; done) | exact ⟨c25, by omega⟩⟩).of ⟨rfl, rfl, rfl, rfl, rfl, trivial⟩
      · refine .p rfl rfl (.mv rfl) ?_
        refine .p rfl rfl (.len rfl rfl) ?_
        refine .p rfl rfl (.gt rfl rfl) ?_
        refine .p rfl rfl (.pickF rfl rfl) ?_
        refine .p rfl rfl (.mv rfl) ?_
        refine .caseD 34 rfl (fun c34 => ?_) (fun c34 => ?_)
        · refine .skip rfl rfl ?_
          refine .skip rfl rfl ?_
          refine .skip rfl rfl ?_
          refine .p rfl rfl (.pickT rfl rfl) ?_
          refine .nil ?_
          exact (meet (_, w27) ⟨X24.trans X27, by intro hf; first | (cases hf; done) | exact ⟨c25, by omega⟩⟩).of ⟨rfl, rfl, rfl, rfl, rfl, trivial⟩
        · refine .p rfl rfl (.mv rfl) ?_
          refine .p rfl rfl (.len rfl rfl) ?_
          refine .p rfl rfl (.gt rfl rfl) ?_
          refine .p rfl rfl (.pickF rfl rfl) ?_
          refine .nil ?_
          exact (meet (_, w27) ⟨X24.trans X27, by intro hf; first | (cases hf; done) | exact ⟨c25, by omega⟩⟩).of ⟨rfl, rfl, rfl, rfl, rfl, trivial⟩
end Go.Proofs.Ytfgjpiemnfefmaa
