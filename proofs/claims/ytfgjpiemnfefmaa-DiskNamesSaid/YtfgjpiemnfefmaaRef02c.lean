/-
  The document's own disk: writes made sure, acts, comparing.
-/
import Derived.Test.YtfgjpiemnfefmaaRef02b
set_option linter.unusedVariables false
set_option linter.unusedSimpArgs false
set_option maxRecDepth 20000
namespace Go.Proofs.Ytfgjpiemnfefmaa
open Go disk
namespace disk
theorem put_ext {p q : disk.Put} (h1 : p.sector = q.sector) (h2 : p.data = q.data) : p = q := by cases p; cases q; simp_all
theorem do_asked {d : Disk} {n : Int} {b : Bs} (h : ¬ askedF d n = 0) : doF d [⟨false, n, b⟩] = (nodisk, askedF d n) := by
  unfold askedF at h ⊢
  unfold doF
  split
  · rfl
  · rename_i hc
    rw [if_neg hc] at h
    split
    · rename_i hr
      rw [doN, if_neg (by simp), if_pos hr]
    · rename_i hr; rw [if_neg hr] at h; exact absurd rfl h
end disk
theorem refMade_fn {w : World} {v vk : Value} {d : Disk} {al : Bool} {ks : List Bool} (h : tDisk.rep All w v d) (hk : (Sl tBool).rep All w vk ks) (hok : checkF d = 0) : Fn Try.prog 39 [v, .bool al, vk] w (fun r w2 => OwnD w2 r (settleD d (fun i => al || ks.getD i false)) (fun k => w.heap.size ≤ k) ∧ Ext (fun _ => False) w w2) := by
  obtain ⟨u, u', rfl, hd, hw, hc1, hc2⟩ := tDisk.val h
  obtain ⟨aw, capw, rfl, hcapw⟩ := Sl.val hw
  obtain ⟨ak, capk, rfl, hcapk⟩ := Sl.val hk
  have hlimk := Sl.lim hk
  simp only [Lim] at hlimk
  have hlimL := Sl.lim hd
  have hdR := tBytes.mono hd (P' := fun k => k < w.heap.size) (fun k _ hk => hk)
  obtain ⟨k1, k2, k3, k4, k5⟩ := check_ok hok
  have hne : d.data ≠ [] := fun e0 => by rw [e0] at k3; simp at k3; omega
  refine Fn.enter (fun w => Try.call39 _ w) Try.func39 rfl ?_
  refine .seq (.region ?_)
  refine .v rfl rfl (.box rfl) ?_
  rintro _ w3 ⟨rfl, N3⟩
  refine .v rfl rfl (.alloc rfl rfl) ?_
  rintro _ w6 ⟨rfl, N6⟩
  have B3 := N3.blk.ext N6.ext (fun x => x)
  have z3 := N3.size
  have z6 := N6.size
  refine .nil (.code (.seq (.keep [(6, _), (3, _), (1, _), (2, _)] ⟨rfl, rfl, rfl, rfl, trivial⟩ ?_)))
  refine .meet (S := Nat × Nat × Nat × List Value × World) (fun s => [(1, .bool al), (2, .slice ak ks.length capk), (3, .pointer (some ⟨w.heap.size, 0, none⟩)), (6, .pointer (some ⟨w3.heap.size, 0, none⟩)), (7, .pointer (some ⟨s.1, 0, none⟩))]) (fun s => s.2.2.2.2) (fun s => Blk s.2.2.2.2 s.1 25 [i64 d.count, .slice (some ⟨s.2.1, 0, none⟩) d.data.length s.2.2.1, .slice none 0 0] ∧ Blk s.2.2.2.2 s.2.1 5 (d.data.map u8 ++ s.2.2.2.1) ∧ d.data.length + s.2.2.2.1.length = s.2.2.1 ∧ Ext (fun _ => False) w6 s.2.2.2.2 ∧ s.2.1 ≠ s.1 ∧ w6.heap.size ≤ s.2.1 ∧ s.2.1 < s.2.2.2.2.heap.size ∧ w6.heap.size ≤ s.1) ?_ ?_
  · rintro ⟨p, bd, cap9, sp, wm⟩ ⟨hBp0, hB0, hcs9, hX, hdp, hbd, hbl, hp⟩
    simp only at hBp0 hB0 hcs9 hX hdp hbd hbl hp
    have hpd : ¬ p = bd := fun h => hdp h.symm
    change A _ _ _ wm
    refine .code (.seq (.seq (.region ?_)))
    refine .p rfl rfl (.as rfl) ?_
    refine .nil (.code (.block ?_))
    refine .loop (S := Nat × World) (fun s => [(1, .bool al), (2, .slice ak ks.length capk), (3, .pointer (some ⟨w.heap.size, 0, none⟩)), (6, .pointer (some ⟨w3.heap.size, 0, none⟩)), (7, .pointer (some ⟨p, 0, none⟩)), (8, i64 s.1)]) (fun s => s.2) (fun s => s.1 ≤ d.waits.length ∧ Blk s.2 p 25 [i64 d.count, .slice (some ⟨bd, 0, none⟩) d.data.length cap9, .slice none 0 0] ∧ Blk s.2 bd 5 ((settled d (fun i => al || ks.getD i false) s.1).map u8 ++ sp) ∧ Ext (fun _ => False) w6 s.2) (fun s => d.waits.length - s.1) (0, wm) ⟨rfl, rfl, rfl, rfl, rfl, rfl, trivial⟩ rfl ⟨Nat.zero_le _, hBp0, hB0, hX⟩ ?_
    rintro ⟨i, wi⟩ J ⟨hi', hBp, hBi, hXi⟩ again
    simp only at hi' hBp hBi hXi
    have B3i := B3.ext hXi (fun x => x)
    change G _ _ _ _ wi
    refine .seq (.seq (.region ?_))
    refine .p rfl rfl (.mv rfl) ?_
    refine .p rfl rfl (.fieldAddr rfl rfl rfl rfl) ?_
    refine .p rfl rfl (.load rfl rfl rfl (B3i.cell 2)) ?_
    refine .p rfl rfl (.len rfl rfl) ?_
    refine .p rfl rfl (.lt rfl rfl) ?_
    refine .nil (.code (.keep [(20, _), (1, _), (2, _), (3, _), (6, _), (7, _), (8, _)] ⟨rfl, rfl, rfl, rfl, rfl, rfl, rfl, trivial⟩ ?_))
    refine .condD rfl (fun c20 => ?_) (fun c20 => ?_)
    · have hil : i < d.waits.length := by omega
      obtain ⟨ba, oa, ca, ue, e, _, hcs, hre⟩ := Sl.at hw (List.getElem?_eq_getElem hil)
      cases e
      obtain ⟨ud, rfl, hud, hs1, hs2⟩ := tPut.val hre
      obtain ⟨ad, capd, rfl, _⟩ := Sl.val hud
      have hcsk := hcs.ext (N3.ext.trans N6.ext) (fun x => x)
      have hk5 := k5 _ (List.getElem_mem hil)
      obtain ⟨m, hm⟩ := Int.eq_ofNat_of_zero_le hk5.1
      have hsl := settled_length hok (fun i => al || ks.getD i false) i
      have hm128 : m * 128 + 128 ≤ d.data.length := by omega
      have hstep := settled_step (d := d) (keep := fun i => al || ks.getD i false) hil
      refine .skip (.code (.seq (.block (.seq (.keep [(1, _), (2, _), (3, _), (6, _), (7, _), (8, _)] ⟨rfl, rfl, rfl, rfl, rfl, rfl, trivial⟩ (.region ?_))))))
      refine .p rfl rfl (.mv rfl) ?_
      refine .p rfl rfl (.mv rfl) ?_
      refine .case 24 rfl (fun c24 => ?_) (fun c24 => ?_)
      · refine .skip rfl rfl ?_
        refine .skip rfl rfl ?_
        refine .skip rfl rfl ?_
        refine .skip rfl rfl ?_
        refine .skip rfl rfl ?_
        refine .skip rfl rfl ?_
        refine .skip rfl rfl ?_
        refine .skip rfl rfl ?_
        refine .skip rfl rfl ?_
        refine .skip rfl rfl ?_
        refine .p rfl rfl (.pickT rfl rfl) ?_
        refine .nil (.code (.keep [(35, _), (1, _), (2, _), (3, _), (6, _), (7, _), (8, _)] ⟨rfl, rfl, rfl, rfl, rfl, rfl, rfl, trivial⟩ (.condT rfl (.seq (.keep [(1, _), (2, _), (3, _), (6, _), (7, _), (8, _)] ⟨rfl, rfl, rfl, rfl, rfl, rfl, trivial⟩ (.region ?_))))))
        refine .p rfl rfl (.as rfl) ?_
        refine .nil (.code (.block ?_))
        refine .loop (S := Nat × World) (fun s => [(1, .bool al), (2, .slice ak ks.length capk), (3, .pointer (some ⟨w.heap.size, 0, none⟩)), (6, .pointer (some ⟨w3.heap.size, 0, none⟩)), (7, .pointer (some ⟨p, 0, none⟩)), (8, i64 i), (9, i64 s.1)]) (fun s => s.2) (fun s => s.1 ≤ 128 ∧ Blk s.2 p 25 [i64 d.count, .slice (some ⟨bd, 0, none⟩) d.data.length cap9, .slice none 0 0] ∧ Blk s.2 bd 5 ((patch (settled d (fun i => al || ks.getD i false) i) (m * 128) (d.waits[i].data.take s.1)).map u8 ++ sp) ∧ Ext (fun _ => False) w6 s.2) (fun s => 128 - s.1) (0, wi) ⟨rfl, rfl, rfl, rfl, rfl, rfl, rfl, trivial⟩ rfl ⟨Nat.zero_le _, hBp, by rw [List.take_zero, patch_none]; exact hBi, hXi⟩ ?_
        rintro ⟨k, wk⟩ J2 ⟨hk', hBp2, hBk, hXk⟩ again2
        simp only at hk' hBp2 hBk hXk
        have B3k := B3.ext hXk (fun x => x)
        change G _ _ _ _ wk
        refine .seq (.seq (.region ?_))
        refine .p rfl rfl (.mv rfl) ?_
        refine .p rfl rfl (.lt rfl rfl) ?_
        refine .nil (.code (.keep [(37, _), (1, _), (2, _), (3, _), (6, _), (7, _), (8, _), (9, _)] ⟨rfl, rfl, rfl, rfl, rfl, rfl, rfl, rfl, trivial⟩ ?_))
        refine .condD rfl (fun c37 => ?_) (fun c37 => ?_)
        · obtain ⟨bb, ob, rfl, _, hcb⟩ := Sl.byteAt hud (k := k) (by omega)
          have hcb := (N3.ext.trans N6.ext).cell hcb (fun x => x)
          refine .skip (.code (.seq (.block (.keep [(1, _), (2, _), (3, _), (6, _), (7, _), (8, _), (9, _)] ⟨rfl, rfl, rfl, rfl, rfl, rfl, rfl, trivial⟩ (.mix (fun _ => False) [21] (by kernel_rfl) (by kernel_rfl) (by kernel_rfl) ?_)))))
          refine .p rfl rfl rfl (fun wx hx => .fieldAddr rfl rfl rfl rfl) ?_
          refine .p rfl rfl rfl (fun wx hx => .load rfl rfl rfl ((hBp2.ext hx (fun x => x)).cell 1)) ?_
          refine .p rfl rfl rfl (fun wx hx => .fieldAddr rfl rfl rfl rfl) ?_
          refine .p rfl rfl rfl (fun wx hx => .load rfl rfl rfl ((B3k.ext hx (fun x => x)).cell 2)) ?_
          refine .p rfl rfl rfl (fun wx hx => .mv rfl) ?_
          refine .p rfl rfl rfl (fun wx hx => .indexAddr (s := 2) rfl rfl rfl rfl (by omega)) ?_
          refine .p rfl rfl rfl (fun wx hx => .fieldAddr rfl rfl rfl rfl) ?_
          refine .p rfl rfl rfl (fun wx hx => .load rfl rfl rfl ((hcsk.ext (hXk.trans hx) (fun x => x)) 0 _ rfl)) ?_
          refine .p rfl rfl rfl (fun wx hx => .cast (.mul rfl rfl (by omega)) (show _ = i64 ((m : Int) * 128) by rw [hm])) ?_
          refine .p rfl rfl rfl (fun wx hx => .mv rfl) ?_
          refine .p rfl rfl rfl (fun wx hx => .cast (.add rfl rfl (by omega)) (show _ = i64 ((m * 128 + k : Nat) : Int) from congrArg i64 (by omega))) ?_
          refine .p rfl rfl rfl (fun wx hx => .fieldAddr rfl rfl rfl rfl) ?_
          refine .p rfl rfl rfl (fun wx hx => .load rfl rfl rfl ((B3k.ext hx (fun x => x)).cell 2)) ?_
          refine .p rfl rfl rfl (fun wx hx => .mv rfl) ?_
          refine .p rfl rfl rfl (fun wx hx => .indexAddr (s := 2) rfl rfl rfl rfl (by omega)) ?_
          refine .p rfl rfl rfl (fun wx hx => .fieldAddr rfl rfl rfl rfl) ?_
          refine .p rfl rfl rfl (fun wx hx => .load rfl rfl rfl ((hcsk.ext (hXk.trans hx) (fun x => x)) 1 _ rfl)) ?_
          refine .p rfl rfl rfl (fun wx hx => .mv rfl) ?_
          refine .p rfl rfl rfl (fun wx hx => .indexAddr1 rfl rfl rfl rfl (by omega)) ?_
          refine .p rfl rfl rfl (fun wx hx => .load rfl rfl rfl ((hXk.trans hx).cell hcb (fun x => x))) ?_
          refine .p rfl rfl rfl (fun wx hx => .cast (.indexAddr1 rfl rfl rfl rfl (by omega)) (show _ = Value.pointer (some ⟨bd, m * 128 + k, none⟩) by simp)) ?_
          refine .sL rfl rfl (.store rfl rfl rfl rfl rfl hBk (by rw [List.length_append, List.length_map, patch_length (by rw [List.length_take, hsl]; omega), hsl]; omega)) (by kernel_rfl) ?_
          intro w29 P29
          have B29 := P29.blk
          rw [patch_set (by omega) (by omega)] at B29
          refine .nil (.blk (.code (.keep [(1, _), (2, _), (3, _), (6, _), (7, _), (8, _), (9, _)] ⟨rfl, rfl, rfl, rfl, rfl, rfl, rfl, trivial⟩ (.region ?_))))
          refine .p rfl rfl (.mv rfl) ?_
          refine .p rfl rfl (.add rfl rfl (by omega)) ?_
          refine .p rfl rfl (.as rfl) ?_
          refine .nil ?_
          exact (again2 (k + 1, w29) ⟨by show k + 1 ≤ _; omega, hBp2.ext P29.ext hpd, B29, hXk.then P29.ext (by rintro j rfl _; exact hbd)⟩ (by show _ - (k + 1) < _ - k; omega)).of ⟨rfl, rfl, rfl, rfl, rfl, rfl, rfl, trivial⟩
        · obtain rfl : k = 128 := by omega
          rw [List.take_of_length_le (by omega)] at hBk
          refine .exit rfl (.blk (.code (.keep [(1, _), (2, _), (3, _), (6, _), (7, _), (8, _)] ⟨rfl, rfl, rfl, rfl, rfl, rfl, trivial⟩ (.region ?_))))
          refine .p rfl rfl (.mv rfl) ?_
          refine .p rfl rfl (.add rfl rfl (by omega)) ?_
          refine .p rfl rfl (.as rfl) ?_
          refine .nil ?_
          exact (again (i + 1, wk) ⟨by show i + 1 ≤ _; omega, hBp2, by rw [hstep, if_pos (by rw [c24]; rfl), show d.waits[i].sector.toNat = m by omega]; exact hBk, hXk⟩ (by show _ - (i + 1) < _ - i; omega)).of ⟨rfl, rfl, rfl, rfl, rfl, rfl, trivial⟩
      · refine .p rfl rfl (.mv rfl) ?_
        refine .p rfl rfl (.mv rfl) ?_
        refine .p rfl rfl (.len rfl rfl) ?_
        refine .p rfl rfl (.lt rfl rfl) ?_
        refine .p rfl rfl (.mv rfl) ?_
        refine .caseD 29 rfl (fun c29 => ?_) (fun c29 => ?_)
        · obtain ⟨bq, oq, rfl, _, hcb2, _⟩ := Sl.cellAt hk rfl Value.bool (fun u x hx => ⟨hx, rfl⟩) (k := i) (by omega)
          have hcb2 := (N3.ext.trans N6.ext).cell hcb2 (fun x => x)
          have hgd : ks.getD i false = ks[i] := by rw [List.getD_eq_getElem?_getD, List.getElem?_eq_getElem (by omega)]; rfl
          refine .p rfl rfl (.mv rfl) ?_
          refine .p rfl rfl (.mv rfl) ?_
          refine .p rfl rfl (.indexAddr1 rfl rfl rfl rfl (by omega)) ?_
          refine .p rfl rfl (.load rfl rfl rfl (hXi.cell hcb2 (fun x => x))) ?_
          refine .p rfl rfl (.pickT rfl rfl) ?_
          refine .p rfl rfl (.pickF rfl rfl) ?_
          refine .nil (.code (.keep [(35, _), (1, _), (2, _), (3, _), (6, _), (7, _), (8, _)] ⟨rfl, rfl, rfl, rfl, rfl, rfl, rfl, trivial⟩ ?_))
          refine .cond rfl (fun c35 => ?_) (fun c35 => ?_)
          · refine .seq (.keep [(1, _), (2, _), (3, _), (6, _), (7, _), (8, _)] ⟨rfl, rfl, rfl, rfl, rfl, rfl, trivial⟩ (.region ?_))
            refine .p rfl rfl (.as rfl) ?_
            refine .nil (.code (.block ?_))
            refine .loop (S := Nat × World) (fun s => [(1, .bool al), (2, .slice (some ⟨bq, oq, none⟩) ks.length capk), (3, .pointer (some ⟨w.heap.size, 0, none⟩)), (6, .pointer (some ⟨w3.heap.size, 0, none⟩)), (7, .pointer (some ⟨p, 0, none⟩)), (8, i64 i), (9, i64 s.1)]) (fun s => s.2) (fun s => s.1 ≤ 128 ∧ Blk s.2 p 25 [i64 d.count, .slice (some ⟨bd, 0, none⟩) d.data.length cap9, .slice none 0 0] ∧ Blk s.2 bd 5 ((patch (settled d (fun i => al || ks.getD i false) i) (m * 128) (d.waits[i].data.take s.1)).map u8 ++ sp) ∧ Ext (fun _ => False) w6 s.2) (fun s => 128 - s.1) (0, wi) ⟨rfl, rfl, rfl, rfl, rfl, rfl, rfl, trivial⟩ rfl ⟨Nat.zero_le _, hBp, by rw [List.take_zero, patch_none]; exact hBi, hXi⟩ ?_
            rintro ⟨k, wk⟩ J2 ⟨hk', hBp2, hBk, hXk⟩ again2
            simp only at hk' hBp2 hBk hXk
            have B3k := B3.ext hXk (fun x => x)
            change G _ _ _ _ wk
            refine .seq (.seq (.region ?_))
            refine .p rfl rfl (.mv rfl) ?_
            refine .p rfl rfl (.lt rfl rfl) ?_
            refine .nil (.code (.keep [(37, _), (1, _), (2, _), (3, _), (6, _), (7, _), (8, _), (9, _)] ⟨rfl, rfl, rfl, rfl, rfl, rfl, rfl, rfl, trivial⟩ ?_))
            refine .condD rfl (fun c37 => ?_) (fun c37 => ?_)
            · obtain ⟨bb, ob, rfl, _, hcb⟩ := Sl.byteAt hud (k := k) (by omega)
              have hcb := (N3.ext.trans N6.ext).cell hcb (fun x => x)
              refine .skip (.code (.seq (.block (.keep [(1, _), (2, _), (3, _), (6, _), (7, _), (8, _), (9, _)] ⟨rfl, rfl, rfl, rfl, rfl, rfl, rfl, trivial⟩ (.mix (fun _ => False) [21] (by kernel_rfl) (by kernel_rfl) (by kernel_rfl) ?_)))))
              refine .p rfl rfl rfl (fun wx hx => .fieldAddr rfl rfl rfl rfl) ?_
              refine .p rfl rfl rfl (fun wx hx => .load rfl rfl rfl ((hBp2.ext hx (fun x => x)).cell 1)) ?_
              refine .p rfl rfl rfl (fun wx hx => .fieldAddr rfl rfl rfl rfl) ?_
              refine .p rfl rfl rfl (fun wx hx => .load rfl rfl rfl ((B3k.ext hx (fun x => x)).cell 2)) ?_
              refine .p rfl rfl rfl (fun wx hx => .mv rfl) ?_
              refine .p rfl rfl rfl (fun wx hx => .indexAddr (s := 2) rfl rfl rfl rfl (by omega)) ?_
              refine .p rfl rfl rfl (fun wx hx => .fieldAddr rfl rfl rfl rfl) ?_
              refine .p rfl rfl rfl (fun wx hx => .load rfl rfl rfl ((hcsk.ext (hXk.trans hx) (fun x => x)) 0 _ rfl)) ?_
              refine .p rfl rfl rfl (fun wx hx => .cast (.mul rfl rfl (by omega)) (show _ = i64 ((m : Int) * 128) by rw [hm])) ?_
              refine .p rfl rfl rfl (fun wx hx => .mv rfl) ?_
              refine .p rfl rfl rfl (fun wx hx => .cast (.add rfl rfl (by omega)) (show _ = i64 ((m * 128 + k : Nat) : Int) from congrArg i64 (by omega))) ?_
              refine .p rfl rfl rfl (fun wx hx => .fieldAddr rfl rfl rfl rfl) ?_
              refine .p rfl rfl rfl (fun wx hx => .load rfl rfl rfl ((B3k.ext hx (fun x => x)).cell 2)) ?_
              refine .p rfl rfl rfl (fun wx hx => .mv rfl) ?_
              refine .p rfl rfl rfl (fun wx hx => .indexAddr (s := 2) rfl rfl rfl rfl (by omega)) ?_
              refine .p rfl rfl rfl (fun wx hx => .fieldAddr rfl rfl rfl rfl) ?_
              refine .p rfl rfl rfl (fun wx hx => .load rfl rfl rfl ((hcsk.ext (hXk.trans hx) (fun x => x)) 1 _ rfl)) ?_
              refine .p rfl rfl rfl (fun wx hx => .mv rfl) ?_
              refine .p rfl rfl rfl (fun wx hx => .indexAddr1 rfl rfl rfl rfl (by omega)) ?_
              refine .p rfl rfl rfl (fun wx hx => .load rfl rfl rfl ((hXk.trans hx).cell hcb (fun x => x))) ?_
              refine .p rfl rfl rfl (fun wx hx => .cast (.indexAddr1 rfl rfl rfl rfl (by omega)) (show _ = Value.pointer (some ⟨bd, m * 128 + k, none⟩) by simp)) ?_
              refine .sL rfl rfl (.store rfl rfl rfl rfl rfl hBk (by rw [List.length_append, List.length_map, patch_length (by rw [List.length_take, hsl]; omega), hsl]; omega)) (by kernel_rfl) ?_
              intro w29 P29
              have B29 := P29.blk
              rw [patch_set (by omega) (by omega)] at B29
              refine .nil (.blk (.code (.keep [(1, _), (2, _), (3, _), (6, _), (7, _), (8, _), (9, _)] ⟨rfl, rfl, rfl, rfl, rfl, rfl, rfl, trivial⟩ (.region ?_))))
              refine .p rfl rfl (.mv rfl) ?_
              refine .p rfl rfl (.add rfl rfl (by omega)) ?_
              refine .p rfl rfl (.as rfl) ?_
              refine .nil ?_
              exact (again2 (k + 1, w29) ⟨by show k + 1 ≤ _; omega, hBp2.ext P29.ext hpd, B29, hXk.then P29.ext (by rintro j rfl _; exact hbd)⟩ (by show _ - (k + 1) < _ - k; omega)).of ⟨rfl, rfl, rfl, rfl, rfl, rfl, rfl, trivial⟩
            · obtain rfl : k = 128 := by omega
              rw [List.take_of_length_le (by omega)] at hBk
              refine .exit rfl (.blk (.code (.keep [(1, _), (2, _), (3, _), (6, _), (7, _), (8, _)] ⟨rfl, rfl, rfl, rfl, rfl, rfl, trivial⟩ (.region ?_))))
              refine .p rfl rfl (.mv rfl) ?_
              refine .p rfl rfl (.add rfl rfl (by omega)) ?_
              refine .p rfl rfl (.as rfl) ?_
              refine .nil ?_
              exact (again (i + 1, wk) ⟨by show i + 1 ≤ _; omega, hBp2, by rw [hstep, if_pos (by rw [c24, hgd, c35]; rfl), show d.waits[i].sector.toNat = m by omega]; exact hBk, hXk⟩ (by show _ - (i + 1) < _ - i; omega)).of ⟨rfl, rfl, rfl, rfl, rfl, rfl, trivial⟩
          · refine .skip (.blk (.code (.keep [(1, _), (2, _), (3, _), (6, _), (7, _), (8, _)] ⟨rfl, rfl, rfl, rfl, rfl, rfl, trivial⟩ (.region ?_))))
            refine .p rfl rfl (.mv rfl) ?_
            refine .p rfl rfl (.add rfl rfl (by omega)) ?_
            refine .p rfl rfl (.as rfl) ?_
            refine .nil ?_
            exact (again (i + 1, wi) ⟨by show i + 1 ≤ _; omega, hBp, by rw [hstep, if_neg (by rw [c24, hgd, c35]; decide)]; exact hBi, hXi⟩ (by show _ - (i + 1) < _ - i; omega)).of ⟨rfl, rfl, rfl, rfl, rfl, rfl, trivial⟩
        · have hgd : ks.getD i false = false := by rw [List.getD_eq_getElem?_getD, List.getElem?_eq_none (by omega)]; rfl
          refine .skip rfl rfl ?_
          refine .skip rfl rfl ?_
          refine .skip rfl rfl ?_
          refine .skip rfl rfl ?_
          refine .p rfl rfl (.pickF rfl rfl) ?_
          refine .p rfl rfl (.pickF rfl rfl) ?_
          refine .nil (.code (.keep [(35, _), (1, _), (2, _), (3, _), (6, _), (7, _), (8, _)] ⟨rfl, rfl, rfl, rfl, rfl, rfl, rfl, trivial⟩ (.condF rfl (.skip (.blk (.code (.keep [(1, _), (2, _), (3, _), (6, _), (7, _), (8, _)] ⟨rfl, rfl, rfl, rfl, rfl, rfl, trivial⟩ (.region ?_))))))))
          refine .p rfl rfl (.mv rfl) ?_
          refine .p rfl rfl (.add rfl rfl (by omega)) ?_
          refine .p rfl rfl (.as rfl) ?_
          refine .nil ?_
          exact (again (i + 1, wi) ⟨by show i + 1 ≤ _; omega, hBp, by rw [hstep, if_neg (by rw [c24, hgd]; decide)]; exact hBi, hXi⟩ (by show _ - (i + 1) < _ - i; omega)).of ⟨rfl, rfl, rfl, rfl, rfl, rfl, trivial⟩
    · obtain rfl : i = d.waits.length := by omega
      refine .exit rfl (.code (.seq (.keep [(6, _), (7, _)] ⟨rfl, rfl, trivial⟩ (.region ?_))))
      refine .p rfl rfl (.loadA (n := 3) rfl rfl rfl rfl rfl hBp.cells) ?_
      refine .s rfl (.storeAll (n := 3) rfl rfl rfl rfl rfl (N6.blk.ext hXi (fun x => x)) rfl) ?_
      intro w40 P40
      have z40 : w40.heap.size = wi.heap.size := P40.size
      refine .nil (.code ?_)
      refine .retR (.cell (n := 3) rfl rfl rfl rfl rfl (P40.blk.cells) .nil) ?_
      have hsl := settled_length hok (fun i => al || ks.getD i false) d.waits.length
      have zi : w6.heap.size ≤ wi.heap.size := hXi.size
      exact ⟨⟨_, _, bd, w.heap.size, fun _ => False, rfl, ⟨hc1, hc2⟩, Own.ofBlk (hBi.ext P40.ext (by show ¬ bd = w3.heap.size; omega)) (by show (settled d _ d.waits.length).length < Lim; rw [hsl]; exact hlimL) (by show d.data.length = (settled d _ d.waits.length).length; rw [hsl]) (by show (settled d _ d.waits.length).length + _ = _; rw [hsl]; exact hcs9), Own.nil, ⟨by have := hBi.lt; omega, by omega, by omega, by show w.heap.size ≤ bd; omega, Nat.le_refl _⟩, fun k h _ => h.elim⟩, (N3.ext.trans (N6.ext.trans hXi)).then P40.ext (by rintro k rfl _; show w.heap.size ≤ w3.heap.size; omega)⟩
  · intro meet
    refine .tree (fun k => w6.heap.size ≤ k) [4, 6, 7] (.op 0 (.op 1 (.op 2 (.op 3 (.alt 4 (.op 4 (.op 5 (.alt 6 (.op 6 (.alt 7 (.op 7 (.nil)) (.stop))) (.stop)))) (.alt 6 (.op 6 (.alt 4 (.op 4 (.op 5 (.alt 7 (.op 7 (.nil)) (.stop)))) (.stop))) (.stop))))))) (by kernel_rfl) (by kernel_rfl) (by kernel_rfl) ?_
    refine .p rfl rfl rfl rfl (fun wx hx => .fieldAddr rfl rfl rfl rfl) ?_
    refine .p rfl rfl rfl rfl (fun wx hx => .load rfl rfl rfl ((B3.ext hx (by show ¬ (w6.heap.size ≤ w.heap.size); omega)).cell 0)) ?_
    refine .p rfl rfl rfl rfl (fun wx hx => .fieldAddr rfl rfl rfl rfl) ?_
    refine .p rfl rfl rfl rfl (fun wx hx => .load rfl rfl rfl ((B3.ext hx (by show ¬ (w6.heap.size ≤ w.heap.size); omega)).cell 1)) ?_
    refine .alt ?_ ?_
    · refine .call (first := []) (captured := []) rfl rfl rfl rfl rfl rfl (refBytes_fn (allOf (tBytes.ext hdR ((N3.ext.trans N6.ext).mono (fun _ _ h => h.elim) |>.trans (Ext.refl _)) (by intro k hk _ he; have he : w6.heap.size ≤ k := he; omega)))) (by rintro _ _ ⟨_, _, _, hx⟩; exact (Ext.refl _).trans (hx.mono (fun _ _ h => h.elim))) ?_
      rintro r9 w9 ⟨bd, O9, hb9, X9⟩
      have z9 := X9.size
      have hl9 := O9.lt hne
      obtain ⟨cap9, sp, rfl, hc9, B9, hcs9⟩ := O9.blk hne
      have hX14 : Ext (fun k => w6.heap.size ≤ k) _ _ := (Ext.refl _).trans (X9.mono (fun _ _ h => h.elim))
      refine .p rfl rfl rfl rfl (fun wx hx => .build (cs := [i64 d.count, .slice (some ⟨bd, 0, none⟩) d.data.length cap9, .slice none 0 0]) rfl (fun _ => by kernel_rfl)) ?_
      refine .alt ?_ ?_
      · refine .v rfl rfl rfl rfl (.alloc rfl rfl) (by rintro _ _ ⟨_, hN⟩; exact hX14.trans hN.ext0) ?_
        rintro _ wa ⟨rfl, N7⟩
        have za := N7.size
        have hX7 : Ext (fun k => w6.heap.size ≤ k) _ _ := hX14.trans (N7.ext0)
        refine .alt ?_ ?_
        · refine .s rfl rfl rfl (.storeAll (n := 3) (E := 25) (cs := [i64 0, .slice none 0 0, .slice none 0 0]) rfl rfl rfl rfl rfl (by first | exact N7.blk | exact N7.blk.ext X9 (fun x => x)) rfl) (by intro wz hP; exact hX7.trans (hP.ext.mono (by rintro k _ rfl; show w6.heap.size ≤ _; omega))) ?_
          intro w7 P7
          have hXs7 : Ext (fun k => w6.heap.size ≤ k) _ _ := hX7.trans (P7.ext.mono (by rintro k _ rfl; show w6.heap.size ≤ _; omega))
          refine .nil ?_
          have hz7 := P7.size
          exact (meet (w9.heap.size, bd, cap9, sp, w7) ⟨P7.blk, (B9.ext N7.ext (fun x => x)).ext P7.ext (by show ¬ bd = w9.heap.size; omega), hcs9, (Ext.refl w6).then hXs7 (fun k hk _ => hk), by show bd ≠ w9.heap.size; omega, by show w6.heap.size ≤ bd; omega, by show bd < w7.heap.size; omega, by show w6.heap.size ≤ w9.heap.size; omega⟩).of ⟨rfl, rfl, rfl, rfl, rfl, trivial⟩
        exact .stop
      exact .stop
    refine .alt ?_ ?_
    · refine .v rfl rfl rfl rfl (.alloc rfl rfl) (by rintro _ _ ⟨_, hN⟩; exact (Ext.refl _).trans hN.ext0) ?_
      rintro _ wa ⟨rfl, N7⟩
      have za := N7.size
      have hX7 : Ext (fun k => w6.heap.size ≤ k) _ _ := (Ext.refl _).trans (N7.ext0)
      refine .alt ?_ ?_
      · refine .call (first := []) (captured := []) rfl rfl rfl rfl rfl rfl (refBytes_fn (allOf (tBytes.ext hdR ((N3.ext.trans N6.ext).mono (fun _ _ h => h.elim) |>.trans hX7) (by intro k hk _ he; have he : w6.heap.size ≤ k := he; omega)))) (by rintro _ _ ⟨_, _, _, hx⟩; exact hX7.trans (hx.mono (fun _ _ h => h.elim))) ?_
        rintro r9 w9 ⟨bd, O9, hb9, X9⟩
        have z9 := X9.size
        have hl9 := O9.lt hne
        obtain ⟨cap9, sp, rfl, hc9, B9, hcs9⟩ := O9.blk hne
        have hX14 : Ext (fun k => w6.heap.size ≤ k) _ _ := hX7.trans (X9.mono (fun _ _ h => h.elim))
        refine .p rfl rfl rfl rfl (fun wx hx => .build (cs := [i64 d.count, .slice (some ⟨bd, 0, none⟩) d.data.length cap9, .slice none 0 0]) rfl (fun _ => by kernel_rfl)) ?_
        refine .alt ?_ ?_
        · refine .s rfl rfl rfl (.storeAll (n := 3) (E := 25) (cs := [i64 0, .slice none 0 0, .slice none 0 0]) rfl rfl rfl rfl rfl (by first | exact N7.blk | exact N7.blk.ext X9 (fun x => x)) rfl) (by intro wz hP; exact hX14.trans (hP.ext.mono (by rintro k _ rfl; show w6.heap.size ≤ _; omega))) ?_
          intro w7 P7
          have hXs7 : Ext (fun k => w6.heap.size ≤ k) _ _ := hX14.trans (P7.ext.mono (by rintro k _ rfl; show w6.heap.size ≤ _; omega))
          refine .nil ?_
          have hz7 := P7.size
          exact (meet (w6.heap.size, bd, cap9, sp, w7) ⟨P7.blk, B9.ext P7.ext (by show ¬ bd = w6.heap.size; omega), hcs9, (Ext.refl w6).then hXs7 (fun k hk _ => hk), by show bd ≠ w6.heap.size; omega, by show w6.heap.size ≤ bd; omega, by show bd < w7.heap.size; omega, by show w6.heap.size ≤ w6.heap.size; omega⟩).of ⟨rfl, rfl, rfl, rfl, rfl, trivial⟩
        exact .stop
      exact .stop
    exact .stop
theorem refFlush_fn {w : World} {v : Value} {d : Disk} (h : tDisk.rep All w v d) : Fn Try.prog 15 [v] w (fun r w2 => ∃ v', r = .tuple #[v', i64 (doF d [⟨true, 0, []⟩]).2] ∧ tDisk.rep (fun k => w.heap.size ≤ k) w2 v' (doF d [⟨true, 0, []⟩]).1 ∧ Ext (fun _ => False) w w2) := by
  obtain ⟨u, u', rfl, hd, hw, hc1, hc2⟩ := tDisk.val h
  refine Fn.enter (fun w => Try.call15 _ w) Try.func15 rfl ?_
  refine .seq (.region ?_)
  refine .v rfl rfl (.box rfl) ?_
  rintro _ w1 ⟨rfl, N1⟩
  refine .v rfl rfl (.alloc rfl rfl) ?_
  rintro _ w2 ⟨rfl, N2⟩
  have B2 := N1.blk.ext N2.ext (fun x => x)
  have z2 := N1.size
  have z4 := N2.size
  refine .p rfl rfl (.as rfl) ?_
  refine .nil (.code (.seq (.seq (.keep [(2, _), (1, _)] ⟨rfl, rfl, trivial⟩ (.region ?_)))))
  refine .p rfl rfl (.loadA (n := 3) rfl rfl rfl rfl rfl B2.cells) ?_
  refine .call (first := []) (captured := []) rfl rfl rfl rfl (May_fn (tDisk.ext0 h (N1.ext.trans N2.ext))) ?_
  rintro _ w12 ⟨rfl, X12⟩
  have hE := N2.blk.ext X12 (fun x => x)
  refine .p rfl rfl (.notD rfl) ?_
  refine .nil (.code (.keep [(6, _), (2, _), (1, _)] ⟨rfl, rfl, rfl, trivial⟩ ?_))
  refine .condD rfl (fun c6 => ?_) (fun c6 => ?_)
  · refine .seq (.keep [(2, _)] ⟨rfl, trivial⟩ (.region ?_))
    refine .p rfl rfl (.build (cs := [i64 0, .slice none 0 0, .slice none 0 0]) rfl (fun _ => by kernel_rfl)) ?_
    refine .s rfl (.storeAll (n := 3) rfl rfl rfl rfl rfl hE rfl) ?_
    intro w15 P15
    refine .p rfl rfl (.as rfl) ?_
    refine .nil (.code ?_)
    refine .retR (.cell (n := 3) rfl rfl rfl rfl rfl (P15.blk.cells) (.tmp rfl .nil)) ?_
    have e : doF d [⟨true, 0, []⟩] = (nodisk, 20) := by unfold doF; rw [if_pos c6, check_no c6]
    rw [e]
    exact ⟨_, rfl, tDisk.mk (d := nodisk) Sl.nil Sl.nil (by decide), (N1.ext.trans (N2.ext.trans X12)).then P15.ext (by rintro k rfl _; show w.heap.size ≤ w1.heap.size; omega)⟩
  · have hok : checkF d = 0 := Decidable.not_not.1 c6
    refine .skip (.code (.seq (.keep [(2, _), (1, _)] ⟨rfl, rfl, trivial⟩ (.region ?_))))
    refine .p rfl rfl (.loadA (n := 3) rfl rfl rfl rfl rfl (B2.ext X12 (fun x => x)).cells) ?_
    refine .call (first := []) (captured := []) rfl rfl rfl rfl (refMade_fn (ks := []) (tDisk.ext0 h (N1.ext.trans (N2.ext.trans X12))) Sl.nil hok) ?_
    rintro r18 w18 ⟨D18, X18⟩
    have z18 := X18.size
    have z12 := X12.size
    obtain ⟨a1, c1, a2, c2, rfl⟩ := D18.val
    refine .s rfl (.storeAll (n := 3) rfl rfl rfl rfl rfl (N2.blk.ext (X12.trans X18) (fun x => x)) rfl) ?_
    intro w67 P67
    refine .p rfl rfl (.as rfl) ?_
    refine .nil (.code ?_)
    refine .retR (.cell (n := 3) rfl rfl rfl rfl rfl (P67.blk.cells) (.tmp rfl .nil)) ?_
    have e : doF d [⟨true, 0, []⟩] = (settleD d (fun i => true || ([] : List Bool).getD i false), 0) := by unfold doF; rw [if_neg (by simp [hok])]; rfl
    rw [e]
    exact ⟨_, rfl, tDisk.mono (tDisk.ext D18.rep P67.ext (fun k h _ he => by have h : w12.heap.size ≤ k := h; have he : k = w1.heap.size := he; omega)) (fun k h _ => by have h : w12.heap.size ≤ k := h; show w.heap.size ≤ k; omega), (N1.ext.trans (N2.ext.trans (X12.trans X18))).then P67.ext (by rintro k rfl _; show w.heap.size ≤ w1.heap.size; omega)⟩
theorem refCrash_fn {w : World} {v vk : Value} {d : Disk} {ks : List Bool} (h : tDisk.rep All w v d) (hk : (Sl tBool).rep All w vk ks) : Fn Try.prog 17 [v, vk] w (fun r w2 => ∃ v', r = .tuple #[v', i64 (crashF d ks).2] ∧ tDisk.rep (fun k => w.heap.size ≤ k) w2 v' (crashF d ks).1 ∧ Ext (fun _ => False) w w2) := by
  obtain ⟨u, u', rfl, hd, hw, hc1, hc2⟩ := tDisk.val h
  obtain ⟨ak, capk, rfl, hcapk⟩ := Sl.val hk
  refine Fn.enter (fun w => Try.call17 _ w) Try.func17 rfl ?_
  refine .seq (.region ?_)
  refine .v rfl rfl (.box rfl) ?_
  rintro _ w2 ⟨rfl, N2⟩
  refine .v rfl rfl (.alloc rfl rfl) ?_
  rintro _ w4 ⟨rfl, N4⟩
  have B2 := N2.blk.ext N4.ext (fun x => x)
  have z2 := N2.size
  have z4 := N4.size
  refine .p rfl rfl (.as rfl) ?_
  refine .nil (.code (.seq (.seq (.keep [(4, _), (2, _), (1, _)] ⟨rfl, rfl, rfl, trivial⟩ (.region ?_)))))
  refine .p rfl rfl (.loadA (n := 3) rfl rfl rfl rfl rfl B2.cells) ?_
  refine .call (first := []) (captured := []) rfl rfl rfl rfl (May_fn (tDisk.ext0 h (N2.ext.trans N4.ext))) ?_
  rintro _ w12 ⟨rfl, X12⟩
  have hE := N4.blk.ext X12 (fun x => x)
  refine .p rfl rfl (.notD rfl) ?_
  refine .nil (.code (.keep [(8, _), (4, _), (2, _), (1, _)] ⟨rfl, rfl, rfl, rfl, trivial⟩ ?_))
  refine .condD rfl (fun c8 => ?_) (fun c8 => ?_)
  · refine .seq (.keep [(4, _)] ⟨rfl, trivial⟩ (.region ?_))
    refine .p rfl rfl (.build (cs := [i64 0, .slice none 0 0, .slice none 0 0]) rfl (fun _ => by kernel_rfl)) ?_
    refine .s rfl (.storeAll (n := 3) rfl rfl rfl rfl rfl hE rfl) ?_
    intro w15 P15
    refine .p rfl rfl (.as rfl) ?_
    refine .nil (.code ?_)
    refine .retR (.cell (n := 3) rfl rfl rfl rfl rfl (P15.blk.cells) (.tmp rfl .nil)) ?_
    have e : crashF d ks = (nodisk, 20) := by unfold crashF; rw [if_pos c8, check_no c8]
    rw [e]
    exact ⟨_, rfl, tDisk.mk (d := nodisk) Sl.nil Sl.nil (by decide), (N2.ext.trans (N4.ext.trans X12)).then P15.ext (by rintro k rfl _; show w.heap.size ≤ w2.heap.size; omega)⟩
  · have hok : checkF d = 0 := Decidable.not_not.1 c8
    refine .skip (.code (.seq (.keep [(4, _), (2, _), (1, _)] ⟨rfl, rfl, rfl, trivial⟩ (.region ?_))))
    refine .p rfl rfl (.loadA (n := 3) rfl rfl rfl rfl rfl (B2.ext X12 (fun x => x)).cells) ?_
    refine .p rfl rfl (.mv rfl) ?_
    refine .call (first := []) (captured := []) rfl rfl rfl rfl (refMade_fn (ks := ks) (tDisk.ext0 h (N2.ext.trans (N4.ext.trans X12))) ((Sl tBool).ext0 hk (N2.ext.trans (N4.ext.trans X12))) hok) ?_
    rintro r18 w18 ⟨D18, X18⟩
    have z18 := X18.size
    have z12 := X12.size
    obtain ⟨a1, c1, a2, c2, rfl⟩ := D18.val
    refine .s rfl (.storeAll (n := 3) rfl rfl rfl rfl rfl (N4.blk.ext (X12.trans X18) (fun x => x)) rfl) ?_
    intro w67 P67
    refine .p rfl rfl (.as rfl) ?_
    refine .nil (.code ?_)
    refine .retR (.cell (n := 3) rfl rfl rfl rfl rfl (P67.blk.cells) (.tmp rfl .nil)) ?_
    have e : crashF d ks = (settleD d (fun i => false || ks.getD i false), 0) := by unfold crashF; rw [if_neg (by simp [hok])]; simp
    rw [e]
    exact ⟨_, rfl, tDisk.mono (tDisk.ext D18.rep P67.ext (fun k h _ he => by have h : w12.heap.size ≤ k := h; have he : k = w2.heap.size := he; omega)) (fun k h _ => by have h : w12.heap.size ≤ k := h; show w.heap.size ≤ k; omega), (N2.ext.trans (N4.ext.trans (X12.trans X18))).then P67.ext (by rintro k rfl _; show w.heap.size ≤ w2.heap.size; omega)⟩
theorem refDo_fn {w : World} {v vl : Value} {d : Disk} {l : List disk.Act} (h : tDisk.rep All w v d) (hl : (Sl tAct).rep All w vl l) : Fn Try.prog 13 [v, vl] w (fun r w2 => ∃ v', r = .tuple #[v', i64 (doF d l).2] ∧ tDisk.rep (fun k => w.heap.size ≤ k) w2 v' (doF d l).1 ∧ Ext (fun _ => False) w w2) := by
  obtain ⟨u, u', rfl, hd, hw, hc1, hc2⟩ := tDisk.val h
  obtain ⟨al, capl, rfl, hcapl⟩ := Sl.val hl
  have hlimA := Sl.lim hl
  simp only [Lim] at hlimA
  refine Fn.enter (fun w => Try.call13 _ w) Try.func13 rfl ?_
  refine .seq (.region ?_)
  refine .v rfl rfl (.box rfl) ?_
  rintro _ w2 ⟨rfl, N2⟩
  refine .v rfl rfl (.alloc rfl rfl) ?_
  rintro _ w4 ⟨rfl, N4⟩
  have B2 := N2.blk.ext N4.ext (fun x => x)
  have z2 : w2.heap.size = w.heap.size + 1 := N2.size
  have z4 : w4.heap.size = w2.heap.size + 1 := N4.size
  refine .p rfl rfl (.as rfl) ?_
  refine .nil (.code (.seq (.seq (.keep [(4, _), (2, _), (1, _)] ⟨rfl, rfl, rfl, trivial⟩ (.region ?_)))))
  refine .p rfl rfl (.loadA (n := 3) rfl rfl rfl rfl rfl B2.cells) ?_
  refine .call (first := []) (captured := []) rfl rfl rfl rfl (May_fn (tDisk.ext0 h (N2.ext.trans N4.ext))) ?_
  rintro _ w12 ⟨rfl, X12⟩
  have hE := N4.blk.ext X12 (fun x => x)
  have z12 : w4.heap.size ≤ w12.heap.size := X12.size
  refine .p rfl rfl (.notD rfl) ?_
  refine .nil (.code (.keep [(11, _), (4, _), (2, _), (1, _)] ⟨rfl, rfl, rfl, rfl, trivial⟩ ?_))
  refine .condD rfl (fun c11 => ?_) (fun c11 => ?_)
  · refine .seq (.keep [(4, _)] ⟨rfl, trivial⟩ (.region ?_))
    refine .p rfl rfl (.build (cs := [i64 0, .slice none 0 0, .slice none 0 0]) rfl (fun _ => by kernel_rfl)) ?_
    refine .s rfl (.storeAll (n := 3) rfl rfl rfl rfl rfl hE rfl) ?_
    intro w15 P15
    have z15 := P15.size
    refine .p rfl rfl (.as rfl) ?_
    refine .nil (.code ?_)
    refine .retR (.cell (n := 3) rfl rfl rfl rfl rfl (P15.blk.cells) (.tmp rfl .nil)) ?_
    have e : doF d l = (nodisk, 20) := by unfold doF; rw [if_pos c11, check_no c11]
    rw [e]
    exact ⟨_, rfl, tDisk.mk (d := nodisk) Sl.nil Sl.nil (by decide), (N2.ext.trans (N4.ext.trans X12)).then P15.ext (by rintro k rfl _; show w.heap.size ≤ w2.heap.size; omega)⟩
  · have hok : checkF d = 0 := Decidable.not_not.1 c11
    obtain ⟨k1, k2, k3, k4, k5⟩ := check_ok hok
    refine .skip (.code (.seq (.keep [(4, _), (2, _), (1, _)] ⟨rfl, rfl, rfl, trivial⟩ (.region ?_))))
    refine .p rfl rfl (.loadA (n := 3) rfl rfl rfl rfl rfl (B2.ext X12 (fun x => x)).cells) ?_
    refine .call (first := []) (captured := []) rfl rfl rfl rfl (refTwin_fn (tDisk.ext0 h (N2.ext.trans (N4.ext.trans X12))) (by omega)) ?_
    rintro r18 w18 ⟨D18, X18⟩
    have z18 : w12.heap.size ≤ w18.heap.size := X18.size
    obtain ⟨a1, c1, a2, c2, rfl⟩ := D18.val
    refine .v rfl rfl (.alloc rfl rfl) ?_
    rintro _ w7 ⟨rfl, N7⟩
    have z7 : w7.heap.size = w18.heap.size + 1 := N7.size
    refine .s rfl (.storeAll (n := 3) rfl rfl rfl rfl rfl N7.blk rfl) ?_
    intro w19 P19
    have z19 : w19.heap.size = w7.heap.size := P19.size
    have X19 := N7.ext.then P19.ext (by rintro k rfl _; exact Nat.le_refl _)
    have D19 := (D18.mono (P' := fun k => w12.heap.size ≤ k ∧ k ≠ w18.heap.size) (fun k h1 h2 => ⟨h1, Nat.ne_of_lt h2⟩)).ext0 X19
    refine .nil (.code (.seq (.seq (.keep [(6, _), (4, _), (2, _), (1, _)] ⟨rfl, rfl, rfl, rfl, trivial⟩ (.region ?_)))))
    refine .p rfl rfl (.as rfl) ?_
    refine .nil (.code (.block ?_))
    refine .loop (S := Nat × Disk × (Option Addr × Nat × Option Addr × Nat) × World) (fun s => [(1, .slice al l.length capl), (2, .pointer (some ⟨w.heap.size, 0, none⟩)), (4, .pointer (some ⟨w2.heap.size, 0, none⟩)), (6, .pointer (some ⟨w18.heap.size, 0, none⟩)), (7, i64 s.1)]) (fun s => s.2.2.2) (fun s => s.1 ≤ l.length ∧ Ext (fun _ => False) w12 s.2.2.2 ∧ doN d.count l d = doN d.count (l.drop s.1) s.2.1 ∧ checkF s.2.1 = 0 ∧ s.2.1.count = d.count ∧ Blk s.2.2.2 w18.heap.size 25 [i64 s.2.1.count, .slice s.2.2.1.1 s.2.1.data.length s.2.2.1.2.1, .slice s.2.2.1.2.2.1 s.2.1.waits.length s.2.2.1.2.2.2] ∧ OwnD s.2.2.2 (.agg #[i64 s.2.1.count, .slice s.2.2.1.1 s.2.1.data.length s.2.2.1.2.1, .slice s.2.2.1.2.2.1 s.2.1.waits.length s.2.2.1.2.2.2]) s.2.1 (fun k => w12.heap.size ≤ k ∧ k ≠ w18.heap.size)) (fun s => l.length - s.1) (0, d, (a1, c1, a2, c2), w19) ⟨rfl, rfl, rfl, rfl, rfl, trivial⟩ rfl ⟨Nat.zero_le _, X18.trans X19, rfl, hok, rfl, P19.blk, D19⟩ ?_
    rintro ⟨i, out, ⟨x1, y1, x2, y2⟩, wi⟩ J ⟨hi', hXi, hdo, hck, hcnt, hB, hD⟩ again
    simp only at hi' hXi hdo hck hcnt hB hD
    have zi0 : w12.heap.size ≤ wi.heap.size := hXi.size
    have zB0 := hB.lt
    change G _ _ _ _ wi
    refine .seq (.seq (.region ?_))
    refine .p rfl rfl (.mv rfl) ?_
    refine .p rfl rfl (.mv rfl) ?_
    refine .p rfl rfl (.len rfl rfl) ?_
    refine .p rfl rfl (.lt rfl rfl) ?_
    refine .nil (.code (.keep [(18, _), (1, _), (2, _), (4, _), (6, _), (7, _)] ⟨rfl, rfl, rfl, rfl, rfl, rfl, trivial⟩ ?_))
    refine .condD rfl (fun c18 => ?_) (fun c18 => ?_)
    · have hil : i < l.length := by omega
      obtain ⟨ba, oa, ca, ue, e, _, hcs, hre⟩ := Sl.at hl (List.getElem?_eq_getElem hil)
      cases e
      obtain ⟨ud, rfl, hud, hs1, hs2⟩ := tAct.val hre
      obtain ⟨ad, capd, rfl, _⟩ := Sl.val hud
      have hcs' := hcs.ext (N2.ext.trans (N4.ext.trans (X12.trans hXi))) (fun x => x)
      have hdrop := List.drop_eq_getElem_cons hil
      refine .skip (.code (.seq (.block (.seq (.seq (.keep [(1, _), (2, _), (4, _), (6, _), (7, _)] ⟨rfl, rfl, rfl, rfl, rfl, trivial⟩ (.region ?_)))))))
      refine .p rfl rfl (.mv rfl) ?_
      refine .p rfl rfl (.mv rfl) ?_
      refine .p rfl rfl (.indexAddr (s := 3) rfl rfl rfl rfl (by omega)) ?_
      refine .p rfl rfl (.fieldAddr rfl rfl rfl rfl) ?_
      refine .p rfl rfl (.load rfl rfl rfl (hcs' 0 _ rfl)) ?_
      refine .nil (.code (.keep [(25, _), (1, _), (2, _), (4, _), (6, _), (7, _)] ⟨rfl, rfl, rfl, rfl, rfl, rfl, trivial⟩ ?_))
      refine .cond rfl (fun c25 => ?_) (fun c25 => ?_)
      · refine .seq (.keep [(1, _), (2, _), (4, _), (6, _), (7, _)] ⟨rfl, rfl, rfl, rfl, rfl, trivial⟩ (.region ?_))
        refine .p rfl rfl (.loadA (n := 3) rfl rfl rfl rfl rfl hB.cells) ?_
        refine .call (first := []) (captured := []) rfl rfl rfl rfl (refMade_fn (al := true) (ks := []) (allOf hD.rep) Sl.nil hck) ?_
        rintro r27 w27 ⟨D27, X27⟩
        have z27 : wi.heap.size ≤ w27.heap.size := X27.size
        obtain ⟨e1, f1, e2, f2, rfl⟩ := D27.val
        refine .s rfl (.storeAll (n := 3) rfl rfl rfl rfl rfl (hB.ext X27 (fun x => x)) rfl) ?_
        intro w28 P28
        have z28 : w28.heap.size = w27.heap.size := P28.size
        refine .nil (.code (.exit rfl (.code (.keep [(1, _), (2, _), (4, _), (6, _), (7, _)] ⟨rfl, rfl, rfl, rfl, rfl, trivial⟩ (.region ?_)))))
        refine .p rfl rfl (.mv rfl) ?_
        refine .p rfl rfl (.add rfl rfl (by omega)) ?_
        refine .p rfl rfl (.as rfl) ?_
        refine .nil ?_
        exact (again (i + 1, settleD out (fun _ => true), (e1, f1, e2, f2), w28) ⟨by show i + 1 ≤ _; omega, (hXi.trans X27).then P28.ext (by rintro k rfl _; exact z18), by rw [hdo, hdrop, doN, if_pos c25], check_settle hck _, hcnt, P28.blk, (D27.ext P28.ext (fun k h _ he => by have h : wi.heap.size ≤ k := h; have he : k = w18.heap.size := he; omega)).mono (fun k h _ => by have h : wi.heap.size ≤ k := h; exact ⟨by omega, by omega⟩)⟩ (by show _ - (i + 1) < _ - i; omega)).of ⟨rfl, rfl, rfl, rfl, rfl, trivial⟩
      · refine .skip (.code (.seq (.keep [(1, _), (2, _), (4, _), (6, _), (7, _)] ⟨rfl, rfl, rfl, rfl, rfl, trivial⟩ (.region ?_))))
        refine .p rfl rfl (.mv rfl) ?_
        refine .p rfl rfl (.mv rfl) ?_
        refine .p rfl rfl (.indexAddr (s := 3) rfl rfl rfl rfl (by omega)) ?_
        refine .p rfl rfl (.fieldAddr rfl rfl rfl rfl) ?_
        refine .p rfl rfl (.loadA (n := 2) rfl rfl rfl rfl rfl (by have := hcs'.drop 1; exact this)) ?_
        refine .v rfl rfl (.alloc rfl rfl) ?_
        rintro _ w10 ⟨rfl, N10⟩
        have z10 : w10.heap.size = wi.heap.size + 1 := N10.size
        refine .s rfl (.storeAll (n := 2) rfl rfl rfl rfl rfl N10.blk rfl) ?_
        intro w21 P21
        have z21 : w21.heap.size = w10.heap.size := P21.size
        have X21 := N10.ext.then P21.ext (by rintro k rfl _; exact Nat.le_refl _)
        have Z21 := hXi.trans X21
        have B10 := P21.blk
        have hBp := hB.ext X21 (fun x => x)
        have hE := N4.blk.ext (X12.trans Z21) (fun x => x)
        have hB2 := B2.ext (X12.trans Z21) (fun x => x)
        have zz : w12.heap.size ≤ w21.heap.size := Z21.size
        refine .nil (.code (.seq (.seq (.keep [(8, _), (1, _), (2, _), (4, _), (6, _), (7, _)] ⟨rfl, rfl, rfl, rfl, rfl, rfl, trivial⟩ (.region ?_)))))
        refine .p rfl rfl (.fieldAddr rfl rfl rfl rfl) ?_
        refine .p rfl rfl (.load rfl rfl rfl (B10.cell 0)) ?_
        refine .p rfl rfl (.lt rfl rfl) ?_
        refine .p rfl rfl (.mv rfl) ?_
        refine .caseD 36 rfl (fun c36 => ?_) (fun c36 => ?_)
        · refine .skip rfl rfl ?_
          refine .skip rfl rfl ?_
          refine .skip rfl rfl ?_
          refine .skip rfl rfl ?_
          refine .skip rfl rfl ?_
          refine .p rfl rfl (.pickT rfl rfl) ?_
          refine .nil (.code (.keep [(42, _), (8, _), (1, _), (2, _), (4, _), (6, _), (7, _)] ⟨rfl, rfl, rfl, rfl, rfl, rfl, rfl, trivial⟩ (.condT rfl (.seq (.keep [(4, _)] ⟨rfl, trivial⟩ (.region ?_))))))
          refine .p rfl rfl (.build (cs := [i64 0, .slice none 0 0, .slice none 0 0]) rfl (fun _ => by kernel_rfl)) ?_
          refine .s rfl (.storeAll (n := 3) rfl rfl rfl rfl rfl hE rfl) ?_
          intro w53 P53
          have z53 := P53.size
          refine .p rfl rfl (.as rfl) ?_
          refine .nil (.code ?_)
          refine .retR (.cell (n := 3) rfl rfl rfl rfl rfl (P53.blk.cells) (.tmp rfl .nil)) ?_
          have e : doF d l = (nodisk, 21) := by unfold doF; rw [if_neg (by simp [hok]), hdo, hdrop, doN, if_neg (by simp [c25]), if_pos (by omega)]
          rw [e]
          exact ⟨_, rfl, tDisk.mk (d := nodisk) Sl.nil Sl.nil (by decide), (N2.ext.trans (N4.ext.trans (X12.trans Z21))).then P53.ext (by rintro k rfl _; show w.heap.size ≤ w2.heap.size; omega)⟩
        · refine .p rfl rfl (.fieldAddr rfl rfl rfl rfl) ?_
          refine .p rfl rfl (.load rfl rfl rfl (B10.cell 0)) ?_
          refine .p rfl rfl (.fieldAddr rfl rfl rfl rfl) ?_
          refine .p rfl rfl (.load rfl rfl rfl (hB2.cell 0)) ?_
          refine .p rfl rfl (.ge rfl rfl) ?_
          refine .p rfl rfl (.pickF rfl rfl) ?_
          refine .nil (.code (.keep [(42, _), (8, _), (1, _), (2, _), (4, _), (6, _), (7, _)] ⟨rfl, rfl, rfl, rfl, rfl, rfl, rfl, trivial⟩ ?_))
          refine .condD rfl (fun c42 => ?_) (fun c42 => ?_)
          · refine .seq (.keep [(4, _)] ⟨rfl, trivial⟩ (.region ?_))
            refine .p rfl rfl (.build (cs := [i64 0, .slice none 0 0, .slice none 0 0]) rfl (fun _ => by kernel_rfl)) ?_
            refine .s rfl (.storeAll (n := 3) rfl rfl rfl rfl rfl hE rfl) ?_
            intro w53 P53
            have z53 := P53.size
            refine .p rfl rfl (.as rfl) ?_
            refine .nil (.code ?_)
            refine .retR (.cell (n := 3) rfl rfl rfl rfl rfl (P53.blk.cells) (.tmp rfl .nil)) ?_
            have e : doF d l = (nodisk, 21) := by unfold doF; rw [if_neg (by simp [hok]), hdo, hdrop, doN, if_neg (by simp [c25]), if_pos (by omega)]
            rw [e]
            exact ⟨_, rfl, tDisk.mk (d := nodisk) Sl.nil Sl.nil (by decide), (N2.ext.trans (N4.ext.trans (X12.trans Z21))).then P53.ext (by rintro k rfl _; show w.heap.size ≤ w2.heap.size; omega)⟩
          · refine .skip (.code (.seq (.seq (.keep [(8, _), (1, _), (2, _), (4, _), (6, _), (7, _)] ⟨rfl, rfl, rfl, rfl, rfl, rfl, trivial⟩ (.region ?_)))))
            refine .p rfl rfl (.fieldAddr rfl rfl rfl rfl) ?_
            refine .p rfl rfl (.load rfl rfl rfl (B10.cell 1)) ?_
            refine .p rfl rfl (.len rfl rfl) ?_
            refine .p rfl rfl (.ne rfl rfl) ?_
            refine .nil (.code (.keep [(47, _), (8, _), (1, _), (2, _), (4, _), (6, _), (7, _)] ⟨rfl, rfl, rfl, rfl, rfl, rfl, rfl, trivial⟩ ?_))
            refine .condD rfl (fun c47 => ?_) (fun c47 => ?_)
            · refine .seq (.keep [(4, _)] ⟨rfl, trivial⟩ (.region ?_))
              refine .p rfl rfl (.build (cs := [i64 0, .slice none 0 0, .slice none 0 0]) rfl (fun _ => by kernel_rfl)) ?_
              refine .s rfl (.storeAll (n := 3) rfl rfl rfl rfl rfl hE rfl) ?_
              intro w59 P59
              have z59 := P59.size
              refine .p rfl rfl (.as rfl) ?_
              refine .nil (.code ?_)
              refine .retR (.cell (n := 3) rfl rfl rfl rfl rfl (P59.blk.cells) (.tmp rfl .nil)) ?_
              have e : doF d l = (nodisk, 8) := by unfold doF; rw [if_neg (by simp [hok]), hdo, hdrop, doN, if_neg (by simp [c25]), if_neg (by omega), if_pos (by omega)]
              rw [e]
              exact ⟨_, rfl, tDisk.mk (d := nodisk) Sl.nil Sl.nil (by decide), (N2.ext.trans (N4.ext.trans (X12.trans Z21))).then P59.ext (by rintro k rfl _; show w.heap.size ≤ w2.heap.size; omega)⟩
            · refine .skip (.code (.seq (.seq (.keep [(8, _), (1, _), (2, _), (4, _), (6, _), (7, _)] ⟨rfl, rfl, rfl, rfl, rfl, rfl, trivial⟩ (.region ?_)))))
              refine .p rfl rfl (.fieldAddr rfl rfl rfl rfl) ?_
              refine .p rfl rfl (.load rfl rfl rfl (hBp.cell 2)) ?_
              refine .p rfl rfl (.len rfl rfl) ?_
              refine .p rfl rfl (.ge rfl rfl) ?_
              refine .nil (.code (.keep [(52, _), (8, _), (1, _), (2, _), (4, _), (6, _), (7, _)] ⟨rfl, rfl, rfl, rfl, rfl, rfl, rfl, trivial⟩ ?_))
              refine .condD rfl (fun c52 => ?_) (fun c52 => ?_)
              · refine .seq (.keep [(4, _)] ⟨rfl, trivial⟩ (.region ?_))
                refine .p rfl rfl (.build (cs := [i64 0, .slice none 0 0, .slice none 0 0]) rfl (fun _ => by kernel_rfl)) ?_
                refine .s rfl (.storeAll (n := 3) rfl rfl rfl rfl rfl hE rfl) ?_
                intro w65 P65
                have z65 := P65.size
                refine .p rfl rfl (.as rfl) ?_
                refine .nil (.code ?_)
                refine .retR (.cell (n := 3) rfl rfl rfl rfl rfl (P65.blk.cells) (.tmp rfl .nil)) ?_
                have e : doF d l = (nodisk, 4) := by unfold doF; rw [if_neg (by simp [hok]), hdo, hdrop, doN, if_neg (by simp [c25]), if_neg (by omega), if_neg (by omega), if_pos (by omega)]
                rw [e]
                exact ⟨_, rfl, tDisk.mk (d := nodisk) Sl.nil Sl.nil (by decide), (N2.ext.trans (N4.ext.trans (X12.trans Z21))).then P65.ext (by rintro k rfl _; show w.heap.size ≤ w2.heap.size; omega)⟩
              · obtain ⟨v1, v2, bd, bw, Q, e, hcr, hO1, hO2, ⟨l1, l2, ne, p1, p2⟩, hq⟩ := hD
                simp at e
                obtain ⟨rfl, rfl⟩ := e
                have zB := hB.lt
                have zi21 : wi.heap.size ≤ w21.heap.size := X21.size
                have hwp : bw ≠ w18.heap.size := p2.2
                have hq2 : ∀ k, Q k → k < wi.heap.size → w12.heap.size ≤ k ∧ k ≠ w18.heap.size ∧ k ≠ bd ∧ k ≠ bw := fun k a b => ⟨(hq k a b).1.1, (hq k a b).1.2, (hq k a b).2⟩
                have hudz := tBytes.ext0 hud (N2.ext.trans (N4.ext.trans (X12.trans Z21)))
                refine .skip (.code (.keep [(8, _), (1, _), (2, _), (4, _), (6, _), (7, _)] ⟨rfl, rfl, rfl, rfl, rfl, rfl, trivial⟩ (.mix ((· = bw)) [6, 8, 9, 11] (by kernel_rfl) (by kernel_rfl) (by kernel_rfl) ?_)))
                refine .p rfl rfl rfl (fun wx hx => .fieldAddr rfl rfl rfl rfl) ?_
                refine .p rfl rfl rfl (fun wx hx => .load rfl rfl rfl ((hBp.ext hx (fun h => hwp h.symm)).cell 2)) ?_
                refine .p rfl rfl rfl (fun wx hx => .fieldAddr rfl rfl rfl rfl) ?_
                refine .p rfl rfl rfl (fun wx hx => .load rfl rfl rfl ((B10.ext hx (by show ¬ wi.heap.size = bw; omega)).cell 0)) ?_
                refine .p rfl rfl rfl (fun wx hx => .fieldAddr rfl rfl rfl rfl) ?_
                refine .p rfl rfl rfl (fun wx hx => .load rfl rfl rfl ((B10.ext hx (by show ¬ wi.heap.size = bw; omega)).cell 1)) ?_
                refine .call (first := []) (captured := []) rfl rfl rfl rfl rfl (refBytes_fn (allOf hudz)) (by rintro _ _ ⟨_, _, _, hx⟩; exact hx.mono (fun _ _ h => h.elim)) ?_
                rintro r33 w33 ⟨b33, O33, hb33, X33⟩
                have z33 : w21.heap.size ≤ w33.heap.size := X33.size
                have hb33 : w21.heap.size ≤ b33 := hb33
                obtain ⟨a33, cap33, rfl, hc33⟩ := O33.val
                refine .p rfl rfl rfl (fun wx hx => .build (cs := [i64 (l[i].put.sector), .slice a33 (l[i].put.data.length) cap33]) rfl (fun _ => by kernel_rfl)) ?_
                refine .v rfl rfl rfl (.lits rfl rfl (fun _ => by kernel_rfl)) (by rintro _ _ ⟨_, hN⟩; exact (X33.mono (fun _ _ h => h.elim)).trans hN.ext0) ?_
                rintro _ w35 ⟨rfl, N35⟩
                have z35 : w35.heap.size = w33.heap.size + 1 := N35.size
                refine .v rfl rfl rfl (.append (t := tPutO) (Q := fun k => w12.heap.size ≤ k ∧ k ≠ w18.heap.size ∧ k ≠ bd ∧ k ≠ bw) (eb := 32) rfl ((hO2.mono hq2).ext0 (X21.trans (X33.trans N35.ext))) rfl (.inr (New.holds N35 (.cons (tPutO.mk (p := l[i].put) (OwnB.of O33 ⟨by omega, by omega, by omega, by omega⟩) ⟨hs1, hs2⟩) .nil) rfl)) rfl rfl rfl rfl rfl rfl rfl (by simp; omega) (by simp [Lim]; omega) (fun k h _ => h.2.2.2)) (by rintro _ _ ⟨_, _, hx, _⟩; exact ((X33.trans N35.ext).mono (fun _ _ h => h.elim)).trans hx) ?_
                rintro r36 w36 ⟨b36, O36, X36, hb36⟩
                have l36 : b36 < w36.heap.size := O36.lt (by simp)
                have z36 : w35.heap.size ≤ w36.heap.size := X36.size
                obtain ⟨a36, cap36, rfl, hc36⟩ := O36.val
                have Xb : Ext (· = bw) w21 w36 := ((X33.trans N35.ext).mono (fun _ _ h => h.elim)).trans X36
                refine .p rfl rfl rfl (fun wx hx => .fieldAddr rfl rfl rfl rfl) ?_
                refine .sL rfl rfl (.store rfl rfl rfl rfl rfl (hBp.ext Xb (fun h => hwp h.symm)) (by simp)) (by kernel_rfl) ?_
                intro w37 P37
                have z37 : w37.heap.size = w36.heap.size := P37.size
                refine .nil (.blk (.code (.keep [(1, _), (2, _), (4, _), (6, _), (7, _)] ⟨rfl, rfl, rfl, rfl, rfl, trivial⟩ (.region ?_))))
                refine .p rfl rfl (.mv rfl) ?_
                refine .p rfl rfl (.add rfl rfl (by omega)) ?_
                refine .p rfl rfl (.as rfl) ?_
                refine .nil ?_
                refine (again (i + 1, { out with waits := out.waits ++ [l[i].put] }, (x1, y1, a36, cap36), w37) ⟨by show i + 1 ≤ _; omega, (Z21.then Xb (by rintro k rfl _; exact p2.1)).then P37.ext (by rintro k rfl _; exact z18), by rw [hdo, hdrop, doN, if_neg (by simp [c25]), if_neg (by omega), if_neg (by omega), if_neg (by omega)], check_put hck (by omega) ⟨by omega, by omega, by omega⟩, hcnt, ?_, ?_⟩ (by show _ - (i + 1) < _ - i; omega)).of ⟨rfl, rfl, rfl, rfl, rfl, trivial⟩
                · have B37 := P37.blk
                  simpa using B37
                · have hb36' : w12.heap.size ≤ b36 ∧ b36 ≠ w18.heap.size ∧ b36 ≠ bd := by rcases hb36 with rfl | rfl <;> refine ⟨?_, ?_, ?_⟩ <;> omega
                  have hO1' := (hO1.ext0 X21).ext Xb (fun h => ne h) (fun _ h _ => h.elim)
                  have hO1'' := hO1'.ext P37.ext p1.2 (fun _ h _ => h.elim)
                  have O37 := O36.ext P37.ext hb36'.2.1 (fun k h _ => h.1.2.1)
                  exact ⟨_, _, bd, b36, _, by simp, hcr, hO1'', O37, ⟨by show bd < w37.heap.size; omega, by show b36 < w37.heap.size; omega, fun h => hb36'.2.2 h.symm, p1, ⟨hb36'.1, hb36'.2.1⟩⟩, fun k h _ => ⟨⟨h.1.1, h.1.2.1⟩, h.1.2.2.1, h.2⟩⟩
    · obtain rfl : i = l.length := by omega
      refine .exit rfl (.code (.seq (.keep [(4, _), (6, _)] ⟨rfl, rfl, trivial⟩ (.region ?_))))
      refine .p rfl rfl (.loadA (n := 3) rfl rfl rfl rfl rfl hB.cells) ?_
      refine .s rfl (.storeAll (n := 3) rfl rfl rfl rfl rfl (N4.blk.ext (X12.trans hXi) (fun x => x)) rfl) ?_
      intro w67 P67
      have z67 : w67.heap.size = wi.heap.size := P67.size
      refine .p rfl rfl (.as rfl) ?_
      refine .nil (.code ?_)
      refine .retR (.cell (n := 3) rfl rfl rfl rfl rfl (P67.blk.cells) (.tmp rfl .nil)) ?_
      have e : doF d l = (out, 0) := by unfold doF; rw [if_neg (by simp [hok]), hdo, List.drop_length, doN]
      rw [e]
      exact ⟨_, rfl, tDisk.mono (tDisk.ext hD.rep P67.ext (fun k h _ he => by have h := h.1; have he : k = w2.heap.size := he; omega)) (fun k h _ => by have h := h.1; show w.heap.size ≤ k; omega), (N2.ext.trans (N4.ext.trans (X12.trans hXi))).then P67.ext (by rintro k rfl _; show w.heap.size ≤ w2.heap.size; omega)⟩
theorem refWrite_fn {w : World} {v vb : Value} {d : Disk} {n : Int} {b : Bs} (h : tDisk.rep All w v d) (hb : tBytes.rep All w vb b) (hn : -9223372036854775808 ≤ n ∧ n ≤ 9223372036854775807) : Fn Try.prog 28 [v, i64 n, vb] w (fun r w2 => ∃ v', r = .tuple #[v', i64 (doF d [⟨false, n, b⟩]).2] ∧ tDisk.rep (fun k => w.heap.size ≤ k) w2 v' (doF d [⟨false, n, b⟩]).1 ∧ Ext (fun _ => False) w w2) := by
  obtain ⟨u, u', rfl, hd, hw, hc1, hc2⟩ := tDisk.val h
  obtain ⟨ab, capb, rfl, hcapb⟩ := Sl.val hb
  obtain ⟨aw, capw, rfl, hcapw⟩ := Sl.val hw
  have hlw := Sl.lim hw
  simp only [Lim] at hlw
  refine Fn.enter (fun w => Try.call28 _ w) Try.func28 rfl ?_
  refine .seq (.region ?_)
  refine .v rfl rfl (.box rfl) ?_
  rintro _ w3 ⟨rfl, N3⟩
  refine .v rfl rfl (.alloc rfl rfl) ?_
  rintro _ w6 ⟨rfl, N6⟩
  have B2 := N3.blk.ext N6.ext (fun x => x)
  have z2 : w3.heap.size = w.heap.size + 1 := N3.size
  have z4 : w6.heap.size = w3.heap.size + 1 := N6.size
  refine .p rfl rfl (.as rfl) ?_
  refine .nil (.code (.seq (.keep [(6, _), (3, _), (1, _), (2, _)] ⟨rfl, rfl, rfl, rfl, trivial⟩ (.region ?_))))
  refine .p rfl rfl (.loadA (n := 3) rfl rfl rfl rfl rfl B2.cells) ?_
  refine .p rfl rfl (.mv rfl) ?_
  refine .call (first := []) (captured := []) rfl rfl rfl rfl (refasked_fn (n := n) (tDisk.ext0 h (N3.ext.trans N6.ext))) ?_
  rintro _ w12 ⟨rfl, X12⟩
  have hE := N6.blk.ext X12 (fun x => x)
  have hB2 := B2.ext X12 (fun x => x)
  have z12 : w6.heap.size ≤ w12.heap.size := X12.size
  refine .p rfl rfl (.as rfl) ?_
  refine .nil (.code (.seq (.seq (.keep [(8, _), (6, _), (3, _), (1, _), (2, _)] ⟨rfl, rfl, rfl, rfl, rfl, trivial⟩ (.region ?_)))))
  refine .p rfl rfl (.mv rfl) ?_
  refine .p rfl rfl (.ne rfl rfl) ?_
  refine .nil (.code (.keep [(14, _), (8, _), (6, _), (3, _), (1, _), (2, _)] ⟨rfl, rfl, rfl, rfl, rfl, rfl, trivial⟩ ?_))
  refine .condD rfl (fun c14 => ?_) (fun c14 => ?_)
  · refine .seq (.keep [(8, _), (6, _)] ⟨rfl, rfl, trivial⟩ (.region ?_))
    refine .p rfl rfl (.build (cs := [i64 0, .slice none 0 0, .slice none 0 0]) rfl (fun _ => by kernel_rfl)) ?_
    refine .p rfl rfl (.mv rfl) ?_
    refine .s rfl (.storeAll (n := 3) rfl rfl rfl rfl rfl hE rfl) ?_
    intro w15 P15
    have z15 := P15.size
    refine .p rfl rfl (.as rfl) ?_
    refine .nil (.code ?_)
    refine .retR (.cell (n := 3) rfl rfl rfl rfl rfl (P15.blk.cells) (.tmp rfl .nil)) ?_
    have e : doF d [⟨false, n, b⟩] = (nodisk, askedF d n) := by exact do_asked c14
    rw [e]
    exact ⟨_, rfl, tDisk.mk (d := nodisk) Sl.nil Sl.nil (by decide), (N3.ext.trans (N6.ext.trans X12)).then P15.ext (by rintro k rfl _; show w.heap.size ≤ w3.heap.size; omega)⟩
  · have hA : askedF d n = 0 := Decidable.byContradiction c14
    have hA2 := hA
    unfold askedF at hA2
    split at hA2
    · omega
    split at hA2
    · omega
    rename_i hck hrg
    have hok : checkF d = 0 := Decidable.byContradiction hck
    obtain ⟨k1, k2, k3, k4, k5⟩ := check_ok hok
    refine .skip (.code (.seq (.seq (.keep [(6, _), (3, _), (1, _), (2, _)] ⟨rfl, rfl, rfl, rfl, trivial⟩ (.region ?_)))))
    refine .p rfl rfl (.mv rfl) ?_
    refine .p rfl rfl (.len rfl rfl) ?_
    refine .p rfl rfl (.ne rfl rfl) ?_
    refine .nil (.code (.keep [(19, _), (6, _), (3, _), (1, _), (2, _)] ⟨rfl, rfl, rfl, rfl, rfl, trivial⟩ ?_))
    refine .condD rfl (fun c19 => ?_) (fun c19 => ?_)
    · refine .seq (.keep [(6, _)] ⟨rfl, trivial⟩ (.region ?_))
      refine .p rfl rfl (.build (cs := [i64 0, .slice none 0 0, .slice none 0 0]) rfl (fun _ => by kernel_rfl)) ?_
      refine .s rfl (.storeAll (n := 3) rfl rfl rfl rfl rfl hE rfl) ?_
      intro w59 P59
      have z59 := P59.size
      refine .p rfl rfl (.as rfl) ?_
      refine .nil (.code ?_)
      refine .retR (.cell (n := 3) rfl rfl rfl rfl rfl (P59.blk.cells) (.tmp rfl .nil)) ?_
      have e : doF d [⟨false, n, b⟩] = (nodisk, 8) := by unfold doF; rw [if_neg (by simp [hok]), doN, if_neg (by simp), if_neg (by show ¬ (n < 0 ∨ d.count ≤ n); omega), if_pos (by show ¬ (b.length : Int) = 128; omega)]
      rw [e]
      exact ⟨_, rfl, tDisk.mk (d := nodisk) Sl.nil Sl.nil (by decide), (N3.ext.trans (N6.ext.trans X12)).then P59.ext (by rintro k rfl _; show w.heap.size ≤ w3.heap.size; omega)⟩
    · refine .skip (.code (.seq (.seq (.keep [(6, _), (3, _), (1, _), (2, _)] ⟨rfl, rfl, rfl, rfl, trivial⟩ (.region ?_)))))
      refine .p rfl rfl (.fieldAddr rfl rfl rfl rfl) ?_
      refine .p rfl rfl (.load rfl rfl rfl (hB2.cell 2)) ?_
      refine .p rfl rfl (.len rfl rfl) ?_
      refine .p rfl rfl (.ge rfl rfl) ?_
      refine .nil (.code (.keep [(24, _), (6, _), (3, _), (1, _), (2, _)] ⟨rfl, rfl, rfl, rfl, rfl, trivial⟩ ?_))
      refine .condD rfl (fun c24 => ?_) (fun c24 => ?_)
      · refine .seq (.keep [(6, _)] ⟨rfl, trivial⟩ (.region ?_))
        refine .p rfl rfl (.build (cs := [i64 0, .slice none 0 0, .slice none 0 0]) rfl (fun _ => by kernel_rfl)) ?_
        refine .s rfl (.storeAll (n := 3) rfl rfl rfl rfl rfl hE rfl) ?_
        intro w65 P65
        have z65 := P65.size
        refine .p rfl rfl (.as rfl) ?_
        refine .nil (.code ?_)
        refine .retR (.cell (n := 3) rfl rfl rfl rfl rfl (P65.blk.cells) (.tmp rfl .nil)) ?_
        have e : doF d [⟨false, n, b⟩] = (nodisk, 4) := by unfold doF; rw [if_neg (by simp [hok]), doN, if_neg (by simp), if_neg (by show ¬ (n < 0 ∨ d.count ≤ n); omega), if_neg (by show ¬ ¬ (b.length : Int) = 128; omega), if_pos (by omega)]
        rw [e]
        exact ⟨_, rfl, tDisk.mk (d := nodisk) Sl.nil Sl.nil (by decide), (N3.ext.trans (N6.ext.trans X12)).then P65.ext (by rintro k rfl _; show w.heap.size ≤ w3.heap.size; omega)⟩
      · refine .skip (.code (.seq (.keep [(6, _), (3, _), (1, _), (2, _)] ⟨rfl, rfl, rfl, rfl, trivial⟩ (.region ?_))))
        refine .p rfl rfl (.loadA (n := 3) rfl rfl rfl rfl rfl hB2.cells) ?_
        refine .call (first := []) (captured := []) rfl rfl rfl rfl (refTwin_fn (tDisk.ext0 h (N3.ext.trans (N6.ext.trans X12))) (by omega)) ?_
        rintro r18 w18 ⟨D18, X18⟩
        have z18 : w12.heap.size ≤ w18.heap.size := X18.size
        obtain ⟨a1, c1, a2, c2, rfl⟩ := D18.val
        refine .v rfl rfl (.alloc rfl rfl) ?_
        rintro _ w7 ⟨rfl, N7⟩
        have z7 : w7.heap.size = w18.heap.size + 1 := N7.size
        refine .s rfl (.storeAll (n := 3) rfl rfl rfl rfl rfl N7.blk rfl) ?_
        intro w21 P19
        have z19 : w21.heap.size = w7.heap.size := P19.size
        have X19 := N7.ext.then P19.ext (by rintro k rfl _; exact Nat.le_refl _)
        have hD := (D18.mono (P' := fun k => w12.heap.size ≤ k ∧ k ≠ w18.heap.size) (fun k h1 h2 => ⟨h1, Nat.ne_of_lt h2⟩)).ext0 X19
        have hBp := P19.blk
        obtain ⟨v1, v2, bd, bw, Q, e, hcr, hO1, hO2, ⟨l1, l2, ne, p1, p2⟩, hq⟩ := hD
        simp at e
        obtain ⟨rfl, rfl⟩ := e
        have hwp : bw ≠ w18.heap.size := p2.2
        have hq2 : ∀ k, Q k → k < w21.heap.size → w12.heap.size ≤ k ∧ k ≠ w18.heap.size ∧ k ≠ bd ∧ k ≠ bw := fun k a b => ⟨(hq k a b).1.1, (hq k a b).1.2, (hq k a b).2⟩
        have hbz := tBytes.ext0 hb (N3.ext.trans (N6.ext.trans (X12.trans (X18.trans X19))))
        refine .nil (.code (.seq (.keep [(9, _), (6, _), (1, _), (2, _)] ⟨rfl, rfl, rfl, rfl, trivial⟩ (.mix ((· = bw)) [4, 6, 7, 9] (by kernel_rfl) (by kernel_rfl) (by kernel_rfl) ?_))))
        refine .p rfl rfl rfl (fun wx hx => .fieldAddr rfl rfl rfl rfl) ?_
        refine .p rfl rfl rfl (fun wx hx => .load rfl rfl rfl ((hBp.ext hx (fun h => hwp h.symm)).cell 2)) ?_
        refine .p rfl rfl rfl (fun wx hx => .mv rfl) ?_
        refine .p rfl rfl rfl (fun wx hx => .mv rfl) ?_
        refine .call (first := []) (captured := []) rfl rfl rfl rfl rfl (refBytes_fn (allOf hbz)) (by rintro _ _ ⟨_, _, _, hx⟩; exact hx.mono (fun _ _ h => h.elim)) ?_
        rintro r33 w33 ⟨b33, O33, hb33, X33⟩
        have z33 : w21.heap.size ≤ w33.heap.size := X33.size
        have hb33 : w21.heap.size ≤ b33 := hb33
        obtain ⟨a33, cap33, rfl, hc33⟩ := O33.val
        refine .p rfl rfl rfl (fun wx hx => .build (cs := [i64 (n), .slice a33 (b.length) cap33]) rfl (fun _ => by kernel_rfl)) ?_
        refine .v rfl rfl rfl (.lits rfl rfl (fun _ => by kernel_rfl)) (by rintro _ _ ⟨_, hN⟩; exact (X33.mono (fun _ _ h => h.elim)).trans hN.ext0) ?_
        rintro _ w35 ⟨rfl, N35⟩
        have z35 : w35.heap.size = w33.heap.size + 1 := N35.size
        refine .v rfl rfl rfl (.append (t := tPutO) (Q := fun k => w12.heap.size ≤ k ∧ k ≠ w18.heap.size ∧ k ≠ bd ∧ k ≠ bw) (eb := 32) rfl ((hO2.mono hq2).ext0 ((X33.trans N35.ext))) rfl (.inr (New.holds N35 (.cons (tPutO.mk (p := ⟨n, b⟩) (OwnB.of O33 ⟨by omega, by omega, by omega, by omega⟩) hn) .nil) rfl)) rfl rfl rfl rfl rfl rfl rfl (by simp; omega) (by simp [Lim]; omega) (fun k h _ => h.2.2.2)) (by rintro _ _ ⟨_, _, hx, _⟩; exact ((X33.trans N35.ext).mono (fun _ _ h => h.elim)).trans hx) ?_
        rintro r36 w36 ⟨b36, O36, X36, hb36⟩
        have l36 : b36 < w36.heap.size := O36.lt (by simp)
        have z36 : w35.heap.size ≤ w36.heap.size := X36.size
        obtain ⟨a36, cap36, rfl, hc36⟩ := O36.val
        have Xb : Ext (· = bw) w21 w36 := ((X33.trans N35.ext).mono (fun _ _ h => h.elim)).trans X36
        refine .p rfl rfl rfl (fun wx hx => .fieldAddr rfl rfl rfl rfl) ?_
        refine .sL rfl rfl (.store rfl rfl rfl rfl rfl (hBp.ext Xb (fun h => hwp h.symm)) (by simp)) (by kernel_rfl) ?_
        intro w37 P37
        have z37 : w37.heap.size = w36.heap.size := P37.size
        refine .nil (.code (.seq (.keep [(9, _), (6, _)] ⟨rfl, rfl, trivial⟩ (.region ?_))))
        refine .p rfl rfl (.loadA (n := 3) rfl rfl rfl rfl rfl P37.blk.cells) ?_
        refine .s rfl (.storeAll (n := 3) rfl rfl rfl rfl rfl ((hE.ext (X18.trans X19) (fun x => x)).ext Xb (by show ¬ w3.heap.size = bw; have := p2.1; omega) |>.ext P37.ext (by show ¬ w3.heap.size = w18.heap.size; omega)) rfl) ?_
        intro w67 P67
        have z67 : w67.heap.size = w37.heap.size := P67.size
        refine .p rfl rfl (.as rfl) ?_
        refine .nil (.code ?_)
        refine .retR (.cell (n := 3) rfl rfl rfl rfl rfl (P67.blk.cells) (.tmp rfl .nil)) ?_
        have e : doF d [⟨false, n, b⟩] = ({ d with waits := d.waits ++ [⟨n, b⟩] }, 0) := by unfold doF; rw [if_neg (by simp [hok]), doN, if_neg (by simp), if_neg (by show ¬ (n < 0 ∨ d.count ≤ n); omega), if_neg (by show ¬ ¬ (b.length : Int) = 128; omega), if_neg (by omega), doN]
        rw [e]
        have hb36' : w12.heap.size ≤ b36 ∧ b36 ≠ w18.heap.size ∧ b36 ≠ bd := by rcases hb36 with rfl | rfl <;> refine ⟨?_, ?_, ?_⟩ <;> omega
        have hO1' := hO1.ext Xb (fun h => ne h) (fun _ h _ => h.elim)
        have hO1'' := (hO1'.ext P37.ext p1.2 (fun _ h _ => h.elim)).ext P67.ext (by show ¬ bd = w3.heap.size; have := p1.1; omega) (fun _ h _ => h.elim)
        have O37 := (O36.ext P37.ext hb36'.2.1 (fun k h _ => h.1.2.1)).ext P67.ext (by show ¬ b36 = w3.heap.size; omega) (fun k h _ he => by have h := h.1.1; have he : k = w3.heap.size := he; omega)
        have D67 : OwnD w67 _ { d with waits := d.waits ++ [⟨n, b⟩] } (fun k => w12.heap.size ≤ k ∧ k ≠ w18.heap.size) := ⟨_, _, bd, b36, _, rfl, hcr, hO1'', O37, ⟨by omega, by omega, fun h => hb36'.2.2 h.symm, p1, ⟨hb36'.1, hb36'.2.1⟩⟩, fun k h _ => ⟨⟨h.1.1, h.1.2.1⟩, h.1.2.2.1, h.2⟩⟩
        refine ⟨_, rfl, tDisk.mono (D67.rep) (fun k h _ => by have h := h.1; show w.heap.size ≤ k; omega), ((N3.ext.trans (N6.ext.trans (X12.trans (X18.trans X19)))).then Xb (by rintro k rfl _; have := p2.1; omega)).then P37.ext (by rintro k rfl _; omega) |>.then P67.ext (by rintro k rfl _; omega)⟩
theorem refSame_fn {w : World} {v u : Value} {a b : Disk} (ha : tDisk.rep All w v a) (hb : tDisk.rep All w u b) : Fn Try.prog 18 [v, u] w (fun r w2 => r = .bool (decide (a = b)) ∧ Ext (fun _ => False) w w2) := by
  obtain ⟨va, va', rfl, had, haw, _⟩ := tDisk.val ha
  obtain ⟨vb, vb', rfl, hbd, hbw, _⟩ := tDisk.val hb
  obtain ⟨ac, ad, aw⟩ := a
  obtain ⟨bc, bd, bw⟩ := b
  simp only at had haw hbd hbw
  obtain ⟨x2, y2, rfl, _⟩ := Sl.val haw
  obtain ⟨x4, y4, rfl, _⟩ := Sl.val hbw
  have hl1 := Sl.lim haw
  have hl2 := Sl.lim hbw
  simp only [Lim] at hl1 hl2
  refine Fn.enter (fun w => Try.call18 _ w) Try.func18 rfl ?_
  refine .seq (.region ?_)
  refine .v rfl rfl (.box rfl) ?_
  rintro _ w2 ⟨rfl, N2⟩
  refine .v rfl rfl (.box rfl) ?_
  rintro _ w3 ⟨rfl, N3⟩
  have B2 := N2.blk.ext N3.ext (fun x => x)
  have B3 := N3.blk
  have X3 := N2.ext.trans N3.ext
  refine .p rfl rfl (.as rfl) ?_
  refine .nil (.code (.seq (.seq (.keep [(3, _), (2, _)] ⟨rfl, rfl, trivial⟩ (.region ?_)))))
  refine .p rfl rfl (.fieldAddr rfl rfl rfl rfl) ?_
  refine .p rfl rfl (.load rfl rfl rfl (B2.cell 0)) ?_
  refine .p rfl rfl (.fieldAddr rfl rfl rfl rfl) ?_
  refine .p rfl rfl (.load rfl rfl rfl (B3.cell 0)) ?_
  refine .p rfl rfl (.ne rfl rfl) ?_
  refine .p rfl rfl (.mv rfl) ?_
  refine .caseD 11 rfl (fun c11 => ?_) (fun c11 => ?_)
  · refine .skip rfl rfl ?_
    refine .skip rfl rfl ?_
    refine .skip rfl rfl ?_
    refine .skip rfl rfl ?_
    refine .skip rfl rfl ?_
    refine .skip rfl rfl ?_
    refine .skip rfl rfl ?_
    refine .p rfl rfl (.pickT rfl rfl) ?_
    refine .p rfl rfl (.mv rfl) ?_
    refine .skip rfl rfl ?_
    refine .skip rfl rfl ?_
    refine .skip rfl rfl ?_
    refine .skip rfl rfl ?_
    refine .skip rfl rfl ?_
    refine .skip rfl rfl ?_
    refine .skip rfl rfl ?_
    refine .p rfl rfl (.pickT rfl rfl) ?_
    refine .nil (.code (.keep [(28, _), (3, _), (2, _)] ⟨rfl, rfl, rfl, trivial⟩ (.condT rfl (.seq (.keep [] trivial (.region ?_))))))
    refine .p rfl rfl (.as rfl) ?_
    refine .nil (.code ?_)
    refine .ret _ rfl ?_
    exact ⟨by rw [decide_eq_false (fun h => c11 (by cases h; rfl))]; rfl, X3⟩
  · refine .p rfl rfl (.fieldAddr rfl rfl rfl rfl) ?_
    refine .p rfl rfl (.load rfl rfl rfl (B2.cell 1)) ?_
    refine .p rfl rfl (.bytesStr rfl (tBytes.ext0 had X3) rfl rfl rfl) ?_
    refine .p rfl rfl (.fieldAddr rfl rfl rfl rfl) ?_
    refine .p rfl rfl (.load rfl rfl rfl (B3.cell 1)) ?_
    refine .p rfl rfl (.bytesStr rfl (tBytes.ext0 hbd X3) rfl rfl rfl) ?_
    refine .p rfl rfl (.neS rfl rfl) ?_
    refine .p rfl rfl (.pickF rfl rfl) ?_
    refine .p rfl rfl (.mv rfl) ?_
    refine .caseD 20 rfl (fun c20 => ?_) (fun c20 => ?_)
    · refine .skip rfl rfl ?_
      refine .skip rfl rfl ?_
      refine .skip rfl rfl ?_
      refine .skip rfl rfl ?_
      refine .skip rfl rfl ?_
      refine .skip rfl rfl ?_
      refine .skip rfl rfl ?_
      refine .p rfl rfl (.pickT rfl rfl) ?_
      refine .nil (.code (.keep [(28, _), (3, _), (2, _)] ⟨rfl, rfl, rfl, trivial⟩ (.condT rfl (.seq (.keep [] trivial (.region ?_))))))
      refine .p rfl rfl (.as rfl) ?_
      refine .nil (.code ?_)
      refine .ret _ rfl ?_
      exact ⟨by rw [decide_eq_false (fun h => c20 (by cases h; rfl))]; rfl, X3⟩
    · refine .p rfl rfl (.fieldAddr rfl rfl rfl rfl) ?_
      refine .p rfl rfl (.load rfl rfl rfl (B2.cell 2)) ?_
      refine .p rfl rfl (.len rfl rfl) ?_
      refine .p rfl rfl (.fieldAddr rfl rfl rfl rfl) ?_
      refine .p rfl rfl (.load rfl rfl rfl (B3.cell 2)) ?_
      refine .p rfl rfl (.len rfl rfl) ?_
      refine .p rfl rfl (.ne rfl rfl) ?_
      refine .p rfl rfl (.pickF rfl rfl) ?_
      refine .nil (.code (.keep [(28, _), (3, _), (2, _)] ⟨rfl, rfl, rfl, trivial⟩ ?_))
      refine .condD rfl (fun c28 => ?_) (fun c28 => ?_)
      · refine .seq (.keep [] trivial (.region ?_))
        refine .p rfl rfl (.as rfl) ?_
        refine .nil (.code ?_)
        refine .ret _ rfl ?_
        exact ⟨by rw [decide_eq_false (fun h => c28 (by cases h; rfl))]; rfl, X3⟩
      · refine .skip (.code (.seq (.seq (.keep [(3, _), (2, _)] ⟨rfl, rfl, trivial⟩ (.region ?_)))))
        refine .p rfl rfl (.as rfl) ?_
        refine .nil (.code (.block ?_))
        have c11 : ac = bc := Decidable.not_not.1 c11
        have c20 : ad = bd := Decidable.not_not.1 c20
        subst c11
        subst c20
        have hlen : aw.length = bw.length := by omega
        refine .loop (S := Nat) (fun s => [(2, .pointer (some ⟨w.heap.size, 0, none⟩)), (3, .pointer (some ⟨w2.heap.size, 0, none⟩)), (5, i64 s)]) (fun s => w3) (fun s => s ≤ aw.length ∧ aw.take s = bw.take s) (fun s => aw.length - s) 0 ⟨rfl, rfl, rfl, trivial⟩ rfl ⟨Nat.zero_le _, rfl⟩ ?_
        rintro i J ⟨hi', htk⟩ again
        refine .seq (.seq (.region ?_))
        refine .p rfl rfl (.mv rfl) ?_
        refine .p rfl rfl (.fieldAddr rfl rfl rfl rfl) ?_
        refine .p rfl rfl (.load rfl rfl rfl (B2.cell 2)) ?_
        refine .p rfl rfl (.len rfl rfl) ?_
        refine .p rfl rfl (.lt rfl rfl) ?_
        refine .nil (.code (.keep [(33, _), (2, _), (3, _), (5, _)] ⟨rfl, rfl, rfl, rfl, trivial⟩ ?_))
        refine .condD rfl (fun c33 => ?_) (fun c33 => ?_)
        · have hil : i < aw.length := by omega
          have him : i < bw.length := by omega
          obtain ⟨b1, o1, q1, ue, e, _, hcs, hre⟩ := Sl.at haw (List.getElem?_eq_getElem hil)
          cases e
          obtain ⟨ud, rfl, hudl, hsl⟩ := tPut.val hre
          obtain ⟨adl, capd, rfl, _⟩ := Sl.val hudl
          have hcs' := hcs.ext X3 (fun x => x)
          obtain ⟨b2, o2, q2, ue2, e2, _, hcm, hrm⟩ := Sl.at hbw (List.getElem?_eq_getElem him)
          cases e2
          obtain ⟨um, rfl, hudm, hsm⟩ := tPut.val hrm
          obtain ⟨adm, capdm, rfl, _⟩ := Sl.val hudm
          have hcm' := hcm.ext X3 (fun x => x)
          refine .skip (.code (.seq (.block (.seq (.keep [(2, _), (3, _), (5, _)] ⟨rfl, rfl, rfl, trivial⟩ (.draws (by kernel_rfl) (by kernel_rfl) ?_))))))
          refine .p rfl rfl (.fieldAddr rfl rfl rfl rfl) ?_
          refine .p rfl rfl (.load rfl rfl rfl (B2.cell 2)) ?_
          refine .p rfl rfl (.mv rfl) ?_
          refine .p rfl rfl (.indexAddr (s := 2) rfl rfl rfl rfl (by omega)) ?_
          refine .p rfl rfl (.fieldAddr rfl rfl rfl rfl) ?_
          refine .p rfl rfl (.load rfl rfl rfl (hcs' 0 _ rfl)) ?_
          refine .p rfl rfl (.fieldAddr rfl rfl rfl rfl) ?_
          refine .p rfl rfl (.load rfl rfl rfl (B3.cell 2)) ?_
          refine .p rfl rfl (.mv rfl) ?_
          refine .p rfl rfl (.indexAddr (s := 2) rfl rfl rfl rfl (by omega)) ?_
          refine .p rfl rfl (.fieldAddr rfl rfl rfl rfl) ?_
          refine .p rfl rfl (.load rfl rfl rfl (hcm' 0 _ rfl)) ?_
          refine .p rfl rfl (.ne rfl rfl) ?_
          refine .p rfl rfl (.mv rfl) ?_
          refine .caseD 49 rfl (fun c49 => ?_) (fun c49 => ?_)
          · refine .skip rfl rfl ?_
            refine .skip rfl rfl ?_
            refine .skip rfl rfl ?_
            refine .skip rfl rfl ?_
            refine .skip rfl rfl ?_
            refine .skip rfl rfl ?_
            refine .skip rfl rfl ?_
            refine .skip rfl rfl ?_
            refine .skip rfl rfl ?_
            refine .skip rfl rfl ?_
            refine .skip rfl rfl ?_
            refine .skip rfl rfl ?_
            refine .skip rfl rfl ?_
            refine .skip rfl rfl ?_
            refine .skip rfl rfl ?_
            refine .p rfl rfl (.pickT rfl rfl) ?_
            refine .nil (.code (.keep [(65, _), (2, _), (3, _), (5, _)] ⟨rfl, rfl, rfl, rfl, trivial⟩ (.condT rfl (.seq (.keep [] trivial (.region ?_))))))
            refine .p rfl rfl (.as rfl) ?_
            refine .nil (.code ?_)
            refine .ret _ rfl ?_
            exact ⟨by rw [decide_eq_false (fun h => c49 (by cases h; rfl))]; rfl, X3⟩
          · refine .p rfl rfl (.fieldAddr rfl rfl rfl rfl) ?_
            refine .p rfl rfl (.load rfl rfl rfl (B2.cell 2)) ?_
            refine .p rfl rfl (.mv rfl) ?_
            refine .p rfl rfl (.indexAddr (s := 2) rfl rfl rfl rfl (by omega)) ?_
            refine .p rfl rfl (.fieldAddr rfl rfl rfl rfl) ?_
            refine .p rfl rfl (.load rfl rfl rfl (hcs' 1 _ rfl)) ?_
            refine .p rfl rfl (.bytesStr rfl (tBytes.ext0 hudl X3) rfl rfl rfl) ?_
            refine .p rfl rfl (.fieldAddr rfl rfl rfl rfl) ?_
            refine .p rfl rfl (.load rfl rfl rfl (B3.cell 2)) ?_
            refine .p rfl rfl (.mv rfl) ?_
            refine .p rfl rfl (.indexAddr (s := 2) rfl rfl rfl rfl (by omega)) ?_
            refine .p rfl rfl (.fieldAddr rfl rfl rfl rfl) ?_
            refine .p rfl rfl (.load rfl rfl rfl (hcm' 1 _ rfl)) ?_
            refine .p rfl rfl (.bytesStr rfl (tBytes.ext0 hudm X3) rfl rfl rfl) ?_
            refine .p rfl rfl (.neS rfl rfl) ?_
            refine .p rfl rfl (.pickF rfl rfl) ?_
            refine .nil (.code (.keep [(65, _), (2, _), (3, _), (5, _)] ⟨rfl, rfl, rfl, rfl, trivial⟩ ?_))
            refine .condD rfl (fun c65 => ?_) (fun c65 => ?_)
            · refine .seq (.keep [] trivial (.region ?_))
              refine .p rfl rfl (.as rfl) ?_
              refine .nil (.code ?_)
              refine .ret _ rfl ?_
              exact ⟨by rw [decide_eq_false (fun h => c65 (by cases h; rfl))]; rfl, X3⟩
            · refine .skip (.blk (.code (.keep [(2, _), (3, _), (5, _)] ⟨rfl, rfl, rfl, trivial⟩ (.region ?_))))
              refine .p rfl rfl (.mv rfl) ?_
              refine .p rfl rfl (.add rfl rfl (by omega)) ?_
              refine .p rfl rfl (.as rfl) ?_
              refine .nil ?_
              have c49 : aw[i].sector = bw[i].sector := Decidable.not_not.1 c49
              exact (again (i + 1) ⟨by show i + 1 ≤ _; omega, by show aw.take (i + 1) = bw.take (i + 1); rw [List.take_succ_eq_append_getElem hil, List.take_succ_eq_append_getElem him, htk, put_ext c49 (Decidable.not_not.1 c65)]⟩ (by show _ - (i + 1) < _ - i; omega)).of ⟨rfl, rfl, rfl, trivial⟩
        · refine .exit rfl (.code (.seq (.keep [] trivial (.region ?_))))
          refine .p rfl rfl (.as rfl) ?_
          refine .nil (.code ?_)
          refine .ret _ rfl ?_
          obtain rfl : i = aw.length := by omega
          rw [List.take_length, hlen, List.take_length] at htk
          subst htk
          exact ⟨by rw [decide_eq_true rfl]; rfl, X3⟩
end Go.Proofs.Ytfgjpiemnfefmaa
