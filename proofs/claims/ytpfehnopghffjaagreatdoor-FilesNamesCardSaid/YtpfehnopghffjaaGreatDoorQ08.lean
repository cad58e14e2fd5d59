import Derived.Test.YtpfehnopghffjaaGreatDoorQ07
import Derived.Test.YtpfehnopghffjaaGreatDoorQ05
import Derived.Test.YtpfehnopghffjaaGreatDoorProg
set_option linter.unusedVariables false
set_option linter.unusedSimpArgs false
set_option maxRecDepth 20000
/-
  Package disk: acts; a loss of power; what is written, made sure, compared.
-/
namespace Go.Proofs.YtpfehnopghffjaaGreatDoor
open Go disk
namespace disk
theorem OwnD.none {w : World} {P : Nat → Prop} {b1 b2 : Nat} (h1 : b1 < w.heap.size) (h2 : b2 < w.heap.size) (hne : b1 ≠ b2) (p1 : P b1) (p2 : P b2) : OwnD w (.agg #[i64 0, .slice none 0 0, .slice none 0 0]) nodisk P :=
  ⟨_, _, b1, b2, fun _ => False, rfl, by decide, Own.nil, Own.nil, ⟨h1, h2, hne, p1, p2⟩, fun k h _ => h.elim⟩
theorem OwnD.val {w : World} {v : Value} {d : Disk} {P : Nat → Prop} (h : OwnD w v d P) : ∃ a1 c1 a2 c2, v = .agg #[i64 d.count, .slice a1 d.data.length c1, .slice a2 d.waits.length c2] := by
  obtain ⟨u, u', bd, bw, Q, rfl, hr, h1, h2, _⟩ := h
  obtain ⟨a1, c1, rfl, _⟩ := h1.val
  obtain ⟨a2, c2, rfl, _⟩ := h2.val
  exact ⟨a1, c1, a2, c2, rfl⟩
/-- acts, one behind the other -/
def doN (count : Int) : List Act → Disk → Disk × Int
  | [], out => (out, 0)
  | a :: l, out =>
    if a.flush = true then doN count l (settleD out (fun _ => true))
    else if a.put.sector < 0 ∨ count ≤ a.put.sector then (nodisk, 21)
    else if ¬ (a.put.data.length : Int) = 128 then (nodisk, 8)
    else if 4096 ≤ out.waits.length then (nodisk, 4)
    else doN count l { out with waits := out.waits ++ [a.put] }
def doF (d : Disk) (l : List Act) : Disk × Int := if ¬ checkF d = 0 then (nodisk, checkF d) else doN d.count l d
def crashF (d : Disk) (ks : List Bool) : Disk × Int := if ¬ checkF d = 0 then (nodisk, checkF d) else (settleD d (fun i => ks.getD i false), 0)
theorem check_of {d : Disk} (h1 : 1 ≤ d.count) (h2 : d.count ≤ 4096) (h3 : (d.data.length : Int) = d.count * 128) (h4 : d.waits.length ≤ 4096) (h5 : ∀ p ∈ d.waits, 0 ≤ p.sector ∧ p.sector < d.count ∧ p.data.length = 128) : checkF d = 0 := by
  unfold checkF
  rw [if_neg (by omega), if_pos]
  rw [List.all_eq_true]
  intro p hp
  unfold okPut
  rw [decide_eq_true_eq]
  exact h5 p hp
theorem check_settle {d : Disk} (h : checkF d = 0) (keep : Nat → Bool) : checkF (settleD d keep) = 0 := by
  obtain ⟨k1, k2, k3, k4, k5⟩ := check_ok h
  exact check_of k1 k2 (by show ((settled d keep d.waits.length).length : Int) = _; rw [settled_length h]; exact k3) (by simp [settleD]) (by simp [settleD])
theorem check_put {d : Disk} {p : disk.Put} (h : checkF d = 0) (hl : d.waits.length < 4096) (hp : 0 ≤ p.sector ∧ p.sector < d.count ∧ p.data.length = 128) : checkF { d with waits := d.waits ++ [p] } = 0 := by
  obtain ⟨k1, k2, k3, k4, k5⟩ := check_ok h
  refine check_of k1 k2 k3 (by simp; omega) (fun q hq => ?_)
  simp at hq
  rcases hq with hq | rfl
  · exact k5 q hq
  · exact hp
end disk
theorem keepAt_fn {w : World} {q : Nat} {v : Value} {ks : List Bool} {E : TypeId} {i : Nat} (hi : i < 1000000) (hq : Blk w q E [v]) (h : (Sl tBool).rep All w v ks) : Fn Tryz.prog 109 [i64 i, .pointer (some ⟨q, 0, none⟩)] w (fun r w2 => r = .bool (ks.getD i false) ∧ Ext (fun _ => False) w w2) := by
  obtain ⟨a, cap, rfl, hcap⟩ := Sl.val h
  have hlim := Sl.lim h
  simp only [Lim] at hlim
  refine Fn.enter (fun w => Tryz.call109 _ w) Tryz.func109 rfl ?_
  refine .seq (.region ?_)
  refine .p rfl rfl (.as rfl) ?_
  refine .nil (.code (.seq (.keep [(0, _), (1, _)] ⟨rfl, rfl, trivial⟩ (.region ?_))))
  refine .p rfl rfl (.mv rfl) ?_
  refine .p rfl rfl (.load rfl rfl rfl (hq.cell 0)) ?_
  refine .p rfl rfl (.len rfl rfl) ?_
  refine .p rfl rfl (.lt rfl rfl) ?_
  refine .p rfl rfl (.mv rfl) ?_
  refine .caseD 8 rfl (fun c8 => ?_) (fun c8 => ?_)
  · obtain ⟨b, o, rfl, _, hc, _⟩ := Sl.cellAt h rfl Value.bool (fun u x hx => ⟨hx, rfl⟩) (k := i) (by omega)
    refine .p rfl rfl (.load rfl rfl rfl (hq.cell 0)) ?_
    refine .p rfl rfl (.mv rfl) ?_
    refine .p rfl rfl (.indexAddr1 rfl rfl rfl rfl (by omega)) ?_
    refine .p rfl rfl (.load rfl rfl rfl hc) ?_
    refine .p rfl rfl (.pickT rfl rfl) ?_
    refine .p rfl rfl (.as rfl) ?_
    refine .nil (.code ?_)
    refine .ret _ rfl ?_
    exact ⟨by rw [List.getD_eq_getElem?_getD, List.getElem?_eq_getElem (by omega)]; rfl, .refl _⟩
  · refine .skip rfl rfl ?_
    refine .skip rfl rfl ?_
    refine .skip rfl rfl ?_
    refine .skip rfl rfl ?_
    refine .p rfl rfl (.pickF rfl rfl) ?_
    refine .p rfl rfl (.as rfl) ?_
    refine .nil (.code ?_)
    refine .ret _ rfl ?_
    exact ⟨by rw [List.getD_eq_getElem?_getD, List.getElem?_eq_none (by omega)]; rfl, .refl _⟩
theorem Do_fn {w : World} {v vl : Value} {d : Disk} {l : List disk.Act} (h : tDisk.rep All w v d) (hl : (Sl tAct).rep All w vl l) : Fn Tryz.prog 36 [v, vl] w (fun r w2 => ∃ v', r = .tuple #[v', i64 (doF d l).2] ∧ OwnD w2 v' (doF d l).1 (fun k => w.heap.size ≤ k) ∧ Ext (fun _ => False) w w2) := by
  obtain ⟨u, u', rfl, hd, hw, hc1, hc2⟩ := tDisk.val h
  obtain ⟨al, capl, rfl, hcapl⟩ := Sl.val hl
  have hlimA := Sl.lim hl
  simp only [Lim] at hlimA
  refine Fn.enter (fun w => Tryz.call36 _ w) Tryz.func36 rfl ?_
  refine .seq (.region ?_)
  refine .v rfl rfl (.box rfl) ?_
  rintro _ w2 ⟨rfl, N2⟩
  refine .v rfl rfl (.alloc rfl rfl) ?_
  rintro _ w4 ⟨rfl, N4⟩
  have B2 := N2.blk.ext N4.ext (fun x => x)
  have z2 : w2.heap.size = w.heap.size + 1 := N2.size
  have z4 : w4.heap.size = w2.heap.size + 1 := N4.size
  refine .p rfl rfl (.as rfl) ?_
  refine .nil (.code (.seq (.seq (.keep [(4, _), (2, _), (1, _)] ⟨rfl, rfl, rfl, trivial⟩ (.region ?_)))))
  refine .p rfl rfl (.loadA (n := 3) rfl rfl rfl rfl rfl B2.cells) ?_
  refine .call (first := []) (captured := []) rfl rfl rfl rfl (Check_fn (tDisk.ext0 h (N2.ext.trans N4.ext))) ?_
  rintro _ w12 ⟨rfl, X12⟩
  have hE := N4.blk.ext X12 (fun x => x)
  have z12 : w4.heap.size ≤ w12.heap.size := X12.size
  refine .p rfl rfl (.as rfl) ?_
  refine .nil (.code (.seq (.keep [(6, _), (4, _), (2, _), (1, _)] ⟨rfl, rfl, rfl, rfl, trivial⟩ (.region ?_))))
  refine .p rfl rfl (.mv rfl) ?_
  refine .p rfl rfl (.ne rfl rfl) ?_
  refine .nil (.code (.keep [(14, _), (6, _), (4, _), (2, _), (1, _)] ⟨rfl, rfl, rfl, rfl, rfl, trivial⟩ ?_))
  refine .condD rfl (fun c14 => ?_) (fun c14 => ?_)
  · refine .seq (.keep [(6, _), (4, _)] ⟨rfl, rfl, trivial⟩ (.region ?_))
    refine .p rfl rfl (.build (cs := [i64 0, .slice none 0 0, .slice none 0 0]) rfl (fun _ => by kernel_rfl)) ?_
    refine .p rfl rfl (.mv rfl) ?_
    refine .s rfl (.storeAll (n := 3) rfl rfl rfl rfl rfl hE rfl) ?_
    intro w15 P15
    have z15 := P15.size
    refine .p rfl rfl (.as rfl) ?_
    refine .nil (.code ?_)
    refine .retR (.cell (n := 3) rfl rfl rfl rfl rfl (P15.blk.cells) (.tmp rfl .nil)) ?_
    have e : doF d l = (nodisk, checkF d) := by unfold doF; rw [if_pos c14]
    rw [e]
    exact ⟨_, rfl, OwnD.none (b1 := w.heap.size) (b2 := w2.heap.size) (by omega) (by omega) (by omega) (Nat.le_refl _) (by show w.heap.size ≤ w2.heap.size; omega), (N2.ext.trans (N4.ext.trans X12)).then P15.ext (by rintro k rfl _; show w.heap.size ≤ w2.heap.size; omega)⟩
  · have hok : checkF d = 0 := Decidable.byContradiction c14
    obtain ⟨k1, k2, k3, k4, k5⟩ := check_ok hok
    refine .skip (.code (.seq (.keep [(4, _), (2, _), (1, _)] ⟨rfl, rfl, rfl, trivial⟩ (.region ?_))))
    refine .p rfl rfl (.loadA (n := 3) rfl rfl rfl rfl rfl (B2.ext X12 (fun x => x)).cells) ?_
    refine .call (first := []) (captured := []) rfl rfl rfl rfl (twin_fn (tDisk.ext0 h (N2.ext.trans (N4.ext.trans X12))) (by omega)) ?_
    rintro r18 w18 ⟨D18, X18⟩
    have z18 : w12.heap.size ≤ w18.heap.size := X18.size
    obtain ⟨a1, c1, a2, c2, rfl⟩ := D18.val
    refine .v rfl rfl (.alloc rfl rfl) ?_
    rintro _ w7 ⟨rfl, N7⟩
    have z7 : w7.heap.size = w18.heap.size + 1 := N7.size
    refine .s rfl (.storeAll (n := 3) rfl rfl rfl rfl rfl N7.blk rfl) ?_
    intro w19 P19
    have z19 : w19.heap.size = w7.heap.size := P19.size
    have X19 := N7.ext.then P19.ext (by rintro k rfl _; exact Nat.le_refl _)
    have D19 := (D18.mono (P' := fun k => w12.heap.size ≤ k ∧ k ≠ w18.heap.size) (fun k h1 h2 => ⟨h1, Nat.ne_of_lt h2⟩)).ext0 X19
    refine .nil (.code (.seq (.seq (.keep [(7, _), (4, _), (2, _), (1, _)] ⟨rfl, rfl, rfl, rfl, trivial⟩ (.region ?_)))))
    refine .p rfl rfl (.mv rfl) ?_
    refine .p rfl rfl (.len rfl rfl) ?_
    refine .p rfl rfl (.mv rfl) ?_
    refine .nil (.code (.block (.keep [(21, _), (20, _), (19, _), (7, _), (4, _), (2, _)] ⟨rfl, rfl, rfl, rfl, rfl, rfl, trivial⟩ ?_)))
    refine .loop (S := Nat × Disk × (Option Addr × Nat × Option Addr × Nat) × World) (fun s => [(2, .pointer (some ⟨w.heap.size, 0, none⟩)), (4, .pointer (some ⟨w2.heap.size, 0, none⟩)), (7, .pointer (some ⟨w18.heap.size, 0, none⟩)), (19, .slice al l.length capl), (20, i64 l.length), (21, i64 s.1)]) (fun s => s.2.2.2) (fun s => s.1 ≤ l.length ∧ Ext (fun _ => False) w12 s.2.2.2 ∧ doN d.count l d = doN d.count (l.drop s.1) s.2.1 ∧ checkF s.2.1 = 0 ∧ s.2.1.count = d.count ∧ Blk s.2.2.2 w18.heap.size 44 [i64 s.2.1.count, .slice s.2.2.1.1 s.2.1.data.length s.2.2.1.2.1, .slice s.2.2.1.2.2.1 s.2.1.waits.length s.2.2.1.2.2.2] ∧ OwnD s.2.2.2 (.agg #[i64 s.2.1.count, .slice s.2.2.1.1 s.2.1.data.length s.2.2.1.2.1, .slice s.2.2.1.2.2.1 s.2.1.waits.length s.2.2.1.2.2.2]) s.2.1 (fun k => w12.heap.size ≤ k ∧ k ≠ w18.heap.size)) (fun s => l.length - s.1) (0, d, (a1, c1, a2, c2), w19) ⟨rfl, rfl, rfl, rfl, rfl, rfl, trivial⟩ rfl ⟨Nat.zero_le _, X18.trans X19, rfl, hok, rfl, P19.blk, D19⟩ ?_
    rintro ⟨i, out, ⟨x1, y1, x2, y2⟩, wi⟩ J ⟨hi', hXi, hdo, hck, hcnt, hB, hD⟩ again
    simp only at hi' hXi hdo hck hcnt hB hD
    refine .seq (.region ?_)
    refine .p rfl rfl (.lt rfl rfl) ?_
    refine .nil (.code (.seq ?_))
    refine .condD rfl (fun c22 => ?_) (fun c22 => ?_)
    · have hil : i < l.length := by omega
      obtain ⟨ba, oa, ca, ue, e, _, hcs, hre⟩ := Sl.at hl (List.getElem?_eq_getElem hil)
      cases e
      obtain ⟨ud, rfl, hud, hs1, hs2⟩ := tAct.val hre
      obtain ⟨ad, capd, rfl, _⟩ := Sl.val hud
      have hcs' := hcs.ext (N2.ext.trans (N4.ext.trans (X12.trans hXi))) (fun x => x)
      have hdrop := List.drop_eq_getElem_cons hil
      refine .skip (.code (.seq (.block (.seq (.keep [(2, _), (4, _), (7, _), (19, _), (20, _), (21, _)] ⟨rfl, rfl, rfl, rfl, rfl, rfl, trivial⟩ (.region ?_))))))
      refine .p rfl rfl (.indexAddr (s := 3) rfl rfl rfl rfl (by omega)) ?_
      refine .p rfl rfl (.loadA (n := 3) rfl rfl rfl rfl rfl hcs') ?_
      refine .v rfl rfl (.alloc rfl rfl) ?_
      rintro _ w9 ⟨rfl, N9⟩
      have z9 : w9.heap.size = wi.heap.size + 1 := N9.size
      refine .s rfl (.storeAll (n := 3) rfl rfl rfl rfl rfl N9.blk rfl) ?_
      intro w20 P20
      have z20 : w20.heap.size = w9.heap.size := P20.size
      have X20 := N9.ext.then P20.ext (by rintro k rfl _; exact Nat.le_refl _)
      refine .nil (.code (.seq (.keep [(9, _), (2, _), (4, _), (7, _), (19, _), (20, _), (21, _)] ⟨rfl, rfl, rfl, rfl, rfl, rfl, rfl, trivial⟩ (.region ?_))))
      refine .p rfl rfl (.fieldAddr rfl rfl rfl rfl) ?_
      refine .p rfl rfl (.loadA (n := 2) rfl rfl rfl rfl rfl (P20.blk.cellsAt 1)) ?_
      refine .v rfl rfl (.alloc rfl rfl) ?_
      rintro _ w10 ⟨rfl, N10⟩
      have z10 : w10.heap.size = w20.heap.size + 1 := N10.size
      refine .s rfl (.storeAll (n := 2) rfl rfl rfl rfl rfl N10.blk rfl) ?_
      intro w21 P21
      have z21 : w21.heap.size = w10.heap.size := P21.size
      have X21 := X20.trans (N10.ext.then P21.ext (by rintro k rfl _; exact Nat.le_refl _))
      have Z21 := hXi.trans X21
      have B9 := (P20.blk.ext N10.ext (fun x => x)).ext P21.ext (by show ¬ wi.heap.size = w20.heap.size; omega)
      have B10 := P21.blk
      have hBp := hB.ext X21 (fun x => x)
      have hDp := hD.ext0 X21
      have hE := N4.blk.ext (X12.trans Z21) (fun x => x)
      have hB2 := B2.ext (X12.trans Z21) (fun x => x)
      have zz : w12.heap.size ≤ w21.heap.size := Z21.size
      refine .nil (.code (.block (.seq (.keep [(10, _), (9, _), (2, _), (4, _), (7, _), (19, _), (20, _), (21, _)] ⟨rfl, rfl, rfl, rfl, rfl, rfl, rfl, rfl, trivial⟩ (.region ?_)))))
      refine .p rfl rfl (.fieldAddr rfl rfl rfl rfl) ?_
      refine .p rfl rfl (.load rfl rfl rfl (B9.cell 0)) ?_
      refine .p rfl rfl (.as rfl) ?_
      refine .nil (.code (.keep [(38, _), (10, _), (2, _), (4, _), (7, _), (19, _), (20, _), (21, _)] ⟨rfl, rfl, rfl, rfl, rfl, rfl, rfl, rfl, trivial⟩ ?_))
      refine .cond rfl (fun c38 => ?_) (fun c38 => ?_)
      · refine .keep [(2, _), (4, _), (7, _), (19, _), (20, _), (21, _)] ⟨rfl, rfl, rfl, rfl, rfl, rfl, trivial⟩ (.region ?_)
        refine .call (first := []) (captured := []) rfl rfl rfl rfl (settle_fn (f := 106) (cap := []) (keep := fun _ => true) hBp hDp (fun h => h.2 rfl) hck (fun j w' _ _ => all_fn)) ?_
        rintro _ w41 ⟨rfl, u3, B41, D41, X41⟩
        refine .nil (.blk (.blk (.code (.keep [(2, _), (4, _), (7, _), (19, _), (20, _), (21, _)] ⟨rfl, rfl, rfl, rfl, rfl, rfl, trivial⟩ (.region ?_)))))
        refine .p rfl rfl (.add rfl rfl (by omega)) ?_
        refine .p rfl rfl (.mv rfl) ?_
        refine .nil ?_
        obtain ⟨e1, f1, e2, f2, e3⟩ := D41.val
        simp [settleD] at e3
        obtain ⟨rfl, rfl, rfl⟩ := e3
        exact (again (i + 1, settleD out (fun _ => true), (e1, f1, none, 0), w41) ⟨by show i + 1 ≤ _; omega, Z21.then X41 (by rintro k (rfl | h) _; exact z18; exact h.1), by rw [hdo, hdrop, doN, if_pos c38], check_settle hck _, hcnt, B41, D41⟩ (by show _ - (i + 1) < _ - i; omega)).of ⟨rfl, rfl, rfl, rfl, rfl, rfl, trivial⟩
      · refine .seq (.keep [(10, _), (2, _), (4, _), (7, _), (19, _), (20, _), (21, _)] ⟨rfl, rfl, rfl, rfl, rfl, rfl, rfl, trivial⟩ (.region ?_))
        refine .p rfl rfl (.fieldAddr rfl rfl rfl rfl) ?_
        refine .p rfl rfl (.load rfl rfl rfl (B10.cell 0)) ?_
        refine .p rfl rfl (.lt rfl rfl) ?_
        refine .p rfl rfl (.mv rfl) ?_
        refine .caseD 46 rfl (fun c46 => ?_) (fun c46 => ?_)
        · refine .skip rfl rfl ?_
          refine .skip rfl rfl ?_
          refine .skip rfl rfl ?_
          refine .skip rfl rfl ?_
          refine .skip rfl rfl ?_
          refine .p rfl rfl (.pickT rfl rfl) ?_
          refine .p rfl rfl (.as rfl) ?_
          refine .nil (.code (.keep [(42, _), (10, _), (2, _), (4, _), (7, _), (19, _), (20, _), (21, _)] ⟨rfl, rfl, rfl, rfl, rfl, rfl, rfl, rfl, trivial⟩ (.condT rfl (.seq (.keep [(4, _)] ⟨rfl, trivial⟩ (.region ?_))))))
          refine .p rfl rfl (.build (cs := [i64 0, .slice none 0 0, .slice none 0 0]) rfl (fun _ => by kernel_rfl)) ?_
          refine .s rfl (.storeAll (n := 3) rfl rfl rfl rfl rfl hE rfl) ?_
          intro w53 P53
          have z53 := P53.size
          refine .p rfl rfl (.as rfl) ?_
          refine .nil (.code ?_)
          refine .retR (.cell (n := 3) rfl rfl rfl rfl rfl (P53.blk.cells) (.tmp rfl .nil)) ?_
          have e : doF d l = (nodisk, 21) := by unfold doF; rw [if_neg (by simp [hok]), hdo, hdrop, doN, if_neg (by simp [c38]), if_pos (by omega)]
          rw [e]
          exact ⟨_, rfl, OwnD.none (b1 := w.heap.size) (b2 := w2.heap.size) (by omega) (by omega) (by omega) (Nat.le_refl _) (by show w.heap.size ≤ w2.heap.size; omega), (N2.ext.trans (N4.ext.trans (X12.trans Z21))).then P53.ext (by rintro k rfl _; show w.heap.size ≤ w2.heap.size; omega)⟩
        · refine .p rfl rfl (.fieldAddr rfl rfl rfl rfl) ?_
          refine .p rfl rfl (.load rfl rfl rfl (B10.cell 0)) ?_
          refine .p rfl rfl (.fieldAddr rfl rfl rfl rfl) ?_
          refine .p rfl rfl (.load rfl rfl rfl (hB2.cell 0)) ?_
          refine .p rfl rfl (.ge rfl rfl) ?_
          refine .p rfl rfl (.pickF rfl rfl) ?_
          refine .p rfl rfl (.as rfl) ?_
          refine .nil (.code (.keep [(42, _), (10, _), (2, _), (4, _), (7, _), (19, _), (20, _), (21, _)] ⟨rfl, rfl, rfl, rfl, rfl, rfl, rfl, rfl, trivial⟩ ?_))
          refine .condD rfl (fun c42 => ?_) (fun c42 => ?_)
          · refine .seq (.keep [(4, _)] ⟨rfl, trivial⟩ (.region ?_))
            refine .p rfl rfl (.build (cs := [i64 0, .slice none 0 0, .slice none 0 0]) rfl (fun _ => by kernel_rfl)) ?_
            refine .s rfl (.storeAll (n := 3) rfl rfl rfl rfl rfl hE rfl) ?_
            intro w53 P53
            have z53 := P53.size
            refine .p rfl rfl (.as rfl) ?_
            refine .nil (.code ?_)
            refine .retR (.cell (n := 3) rfl rfl rfl rfl rfl (P53.blk.cells) (.tmp rfl .nil)) ?_
            have e : doF d l = (nodisk, 21) := by unfold doF; rw [if_neg (by simp [hok]), hdo, hdrop, doN, if_neg (by simp [c38]), if_pos (by omega)]
            rw [e]
            exact ⟨_, rfl, OwnD.none (b1 := w.heap.size) (b2 := w2.heap.size) (by omega) (by omega) (by omega) (Nat.le_refl _) (by show w.heap.size ≤ w2.heap.size; omega), (N2.ext.trans (N4.ext.trans (X12.trans Z21))).then P53.ext (by rintro k rfl _; show w.heap.size ≤ w2.heap.size; omega)⟩
          · refine .seq (.keep [(10, _), (2, _), (4, _), (7, _), (19, _), (20, _), (21, _)] ⟨rfl, rfl, rfl, rfl, rfl, rfl, rfl, trivial⟩ (.region ?_))
            refine .p rfl rfl (.fieldAddr rfl rfl rfl rfl) ?_
            refine .p rfl rfl (.load rfl rfl rfl (B10.cell 1)) ?_
            refine .p rfl rfl (.len rfl rfl) ?_
            refine .p rfl rfl (.ne rfl rfl) ?_
            refine .p rfl rfl (.as rfl) ?_
            refine .nil (.code (.keep [(54, _), (10, _), (2, _), (4, _), (7, _), (19, _), (20, _), (21, _)] ⟨rfl, rfl, rfl, rfl, rfl, rfl, rfl, rfl, trivial⟩ ?_))
            refine .condD rfl (fun c54 => ?_) (fun c54 => ?_)
            · refine .seq (.keep [(4, _)] ⟨rfl, trivial⟩ (.region ?_))
              refine .p rfl rfl (.build (cs := [i64 0, .slice none 0 0, .slice none 0 0]) rfl (fun _ => by kernel_rfl)) ?_
              refine .s rfl (.storeAll (n := 3) rfl rfl rfl rfl rfl hE rfl) ?_
              intro w59 P59
              have z59 := P59.size
              refine .p rfl rfl (.as rfl) ?_
              refine .nil (.code ?_)
              refine .retR (.cell (n := 3) rfl rfl rfl rfl rfl (P59.blk.cells) (.tmp rfl .nil)) ?_
              have e : doF d l = (nodisk, 8) := by unfold doF; rw [if_neg (by simp [hok]), hdo, hdrop, doN, if_neg (by simp [c38]), if_neg (by omega), if_pos (by omega)]
              rw [e]
              exact ⟨_, rfl, OwnD.none (b1 := w.heap.size) (b2 := w2.heap.size) (by omega) (by omega) (by omega) (Nat.le_refl _) (by show w.heap.size ≤ w2.heap.size; omega), (N2.ext.trans (N4.ext.trans (X12.trans Z21))).then P59.ext (by rintro k rfl _; show w.heap.size ≤ w2.heap.size; omega)⟩
            · refine .seq (.keep [(10, _), (2, _), (4, _), (7, _), (19, _), (20, _), (21, _)] ⟨rfl, rfl, rfl, rfl, rfl, rfl, rfl, trivial⟩ (.region ?_))
              refine .p rfl rfl (.fieldAddr rfl rfl rfl rfl) ?_
              refine .p rfl rfl (.load rfl rfl rfl (hBp.cell 2)) ?_
              refine .p rfl rfl (.len rfl rfl) ?_
              refine .p rfl rfl (.ge rfl rfl) ?_
              refine .p rfl rfl (.as rfl) ?_
              refine .nil (.code (.keep [(60, _), (10, _), (2, _), (4, _), (7, _), (19, _), (20, _), (21, _)] ⟨rfl, rfl, rfl, rfl, rfl, rfl, rfl, rfl, trivial⟩ ?_))
              refine .condD rfl (fun c60 => ?_) (fun c60 => ?_)
              · refine .seq (.keep [(4, _)] ⟨rfl, trivial⟩ (.region ?_))
                refine .p rfl rfl (.build (cs := [i64 0, .slice none 0 0, .slice none 0 0]) rfl (fun _ => by kernel_rfl)) ?_
                refine .s rfl (.storeAll (n := 3) rfl rfl rfl rfl rfl hE rfl) ?_
                intro w65 P65
                have z65 := P65.size
                refine .p rfl rfl (.as rfl) ?_
                refine .nil (.code ?_)
                refine .retR (.cell (n := 3) rfl rfl rfl rfl rfl (P65.blk.cells) (.tmp rfl .nil)) ?_
                have e : doF d l = (nodisk, 4) := by unfold doF; rw [if_neg (by simp [hok]), hdo, hdrop, doN, if_neg (by simp [c38]), if_neg (by omega), if_neg (by omega), if_pos (by omega)]
                rw [e]
                exact ⟨_, rfl, OwnD.none (b1 := w.heap.size) (b2 := w2.heap.size) (by omega) (by omega) (by omega) (Nat.le_refl _) (by show w.heap.size ≤ w2.heap.size; omega), (N2.ext.trans (N4.ext.trans (X12.trans Z21))).then P65.ext (by rintro k rfl _; show w.heap.size ≤ w2.heap.size; omega)⟩
              · obtain ⟨v1, v2, bd, bw, Q, e, hcr, hO1, hO2, ⟨l1, l2, ne, p1, p2⟩, hq⟩ := hD
                simp at e
                obtain ⟨rfl, rfl⟩ := e
                have zB := hB.lt
                have zi21 : wi.heap.size ≤ w21.heap.size := X21.size
                have hwp : bw ≠ w18.heap.size := p2.2
                have hq2 : ∀ k, Q k → k < wi.heap.size → w12.heap.size ≤ k ∧ k ≠ w18.heap.size ∧ k ≠ bd ∧ k ≠ bw := fun k a b => ⟨(hq k a b).1.1, (hq k a b).1.2, (hq k a b).2⟩
                have hudz := tBytes.ext0 hud (N2.ext.trans (N4.ext.trans (X12.trans Z21)))
                refine .keep [(10, _), (2, _), (4, _), (7, _), (19, _), (20, _), (21, _)] ⟨rfl, rfl, rfl, rfl, rfl, rfl, rfl, trivial⟩ (.mix ((· = bw)) [6, 8, 9, 11] (by kernel_rfl) (by kernel_rfl) (by kernel_rfl) ?_)
                refine .p rfl rfl rfl (fun wx hx => .fieldAddr rfl rfl rfl rfl) ?_
                refine .p rfl rfl rfl (fun wx hx => .load rfl rfl rfl ((hBp.ext hx (fun h => hwp h.symm)).cell 2)) ?_
                refine .p rfl rfl rfl (fun wx hx => .fieldAddr rfl rfl rfl rfl) ?_
                refine .p rfl rfl rfl (fun wx hx => .load rfl rfl rfl ((B10.ext hx (by show ¬ w20.heap.size = bw; omega)).cell 0)) ?_
                refine .p rfl rfl rfl (fun wx hx => .fieldAddr rfl rfl rfl rfl) ?_
                refine .p rfl rfl rfl (fun wx hx => .load rfl rfl rfl ((B10.ext hx (by show ¬ w20.heap.size = bw; omega)).cell 1)) ?_
                refine .call (first := []) (captured := []) rfl rfl rfl rfl rfl (bytesClone_fn hudz) (by rintro _ _ ⟨_, _, _, hx⟩; exact hx.mono (fun _ _ h => h.elim)) ?_
                rintro r33 w33 ⟨b33, O33, hb33, X33⟩
                have z33 : w21.heap.size ≤ w33.heap.size := X33.size
                have hb33 : w21.heap.size ≤ b33 := hb33
                obtain ⟨a33, cap33, rfl, hc33⟩ := O33.val
                refine .p rfl rfl rfl (fun wx hx => .build (cs := [i64 (l[i].put.sector), .slice a33 (l[i].put.data.length) cap33]) rfl (fun _ => by kernel_rfl)) ?_
                refine .v rfl rfl rfl (.lits rfl rfl (fun _ => by kernel_rfl)) (by rintro _ _ ⟨_, hN⟩; exact (X33.mono (fun _ _ h => h.elim)).trans hN.ext0) ?_
                rintro _ w35 ⟨rfl, N35⟩
                have z35 : w35.heap.size = w33.heap.size + 1 := N35.size
                refine .v rfl rfl rfl (.append (t := tPutO) (Q := fun k => w12.heap.size ≤ k ∧ k ≠ w18.heap.size ∧ k ≠ bd ∧ k ≠ bw) (eb := 32) rfl ((hO2.mono hq2).ext0 (X21.trans (X33.trans N35.ext))) rfl (.inr (New.holds N35 (.cons (tPutO.mk (OwnB.of O33 ⟨by omega, by omega, by omega, by omega⟩) ⟨hs1, hs2⟩) .nil) rfl)) rfl rfl rfl rfl rfl rfl rfl (by simp; omega) (by simp [Lim]; omega) (fun k h _ => h.2.2.2)) (by rintro _ _ ⟨_, _, hx, _⟩; exact ((X33.trans N35.ext).mono (fun _ _ h => h.elim)).trans hx) ?_
                rintro r36 w36 ⟨b36, O36, X36, hb36⟩
                have l36 := O36.lt (by simp)
                have z36 : w35.heap.size ≤ w36.heap.size := X36.size
                obtain ⟨a36, cap36, rfl, hc36⟩ := O36.val
                have Xb : Ext (· = bw) w21 w36 := ((X33.trans N35.ext).mono (fun _ _ h => h.elim)).trans X36
                refine .p rfl rfl rfl (fun wx hx => .fieldAddr rfl rfl rfl rfl) ?_
                refine .sL rfl rfl (.store rfl rfl rfl rfl rfl (hBp.ext Xb (fun h => hwp h.symm)) (by simp)) (by kernel_rfl) ?_
                intro w37 P37
                have z37 : w37.heap.size = w36.heap.size := P37.size
                refine .nil (.blk (.blk (.code (.keep [(2, _), (4, _), (7, _), (19, _), (20, _), (21, _)] ⟨rfl, rfl, rfl, rfl, rfl, rfl, trivial⟩ (.region ?_)))))
                refine .p rfl rfl (.add rfl rfl (by omega)) ?_
                refine .p rfl rfl (.mv rfl) ?_
                refine .nil ?_
                refine (again (i + 1, { out with waits := out.waits ++ [l[i].put] }, (x1, y1, a36, cap36), w37) ⟨by show i + 1 ≤ _; omega, (Z21.then Xb (by rintro k rfl _; exact p2.1)).then P37.ext (by rintro k rfl _; exact z18), by rw [hdo, hdrop, doN, if_neg (by simp [c38]), if_neg (by omega), if_neg (by omega), if_neg (by omega)], check_put hck (by omega) ⟨by omega, by omega, by omega⟩, hcnt, ?_, ?_⟩ (by show _ - (i + 1) < _ - i; omega)).of ⟨rfl, rfl, rfl, rfl, rfl, rfl, trivial⟩
                · have B37 := P37.blk
                  simpa using B37
                · have hb36' : w12.heap.size ≤ b36 ∧ b36 ≠ w18.heap.size ∧ b36 ≠ bd := by rcases hb36 with rfl | rfl <;> refine ⟨?_, ?_, ?_⟩ <;> omega
                  have l36 : b36 < w36.heap.size := l36
                  have hO1' := (hO1.ext0 X21).ext Xb (fun h => ne h) (fun _ h _ => h.elim)
                  have hO1'' := hO1'.ext P37.ext p1.2 (fun _ h _ => h.elim)
                  have O37 := O36.ext P37.ext hb36'.2.1 (fun k h _ => h.1.2.1)
                  exact ⟨_, _, bd, b36, _, by simp, hcr, hO1'', O37, ⟨by show bd < w37.heap.size; omega, by show b36 < w37.heap.size; omega, fun h => hb36'.2.2 h.symm, p1, ⟨hb36'.1, hb36'.2.1⟩⟩, fun k h _ => ⟨⟨h.1.1, h.1.2.1⟩, h.1.2.2.1, h.2⟩⟩
    · obtain rfl : i = l.length := by omega
      refine .exit rfl (.code (.seq (.keep [(4, _), (7, _)] ⟨rfl, rfl, trivial⟩ (.region ?_))))
      refine .p rfl rfl (.loadA (n := 3) rfl rfl rfl rfl rfl hB.cells) ?_
      refine .s rfl (.storeAll (n := 3) rfl rfl rfl rfl rfl (N4.blk.ext (X12.trans hXi) (fun x => x)) rfl) ?_
      intro w67 P67
      have z67 : w67.heap.size = wi.heap.size := P67.size
      refine .p rfl rfl (.as rfl) ?_
      refine .nil (.code ?_)
      refine .retR (.cell (n := 3) rfl rfl rfl rfl rfl (P67.blk.cells) (.tmp rfl .nil)) ?_
      have e : doF d l = (out, 0) := by unfold doF; rw [if_neg (by simp [hok]), hdo, List.drop_length, doN]
      rw [e]
      exact ⟨_, rfl, (hD.ext P67.ext (fun k h _ he => by have h := h.1; have he : k = w2.heap.size := he; omega)).mono (fun k h _ => by have h := h.1; show w.heap.size ≤ k; omega), (N2.ext.trans (N4.ext.trans (X12.trans hXi))).then P67.ext (by rintro k rfl _; show w.heap.size ≤ w2.heap.size; omega)⟩
end Go.Proofs.YtpfehnopghffjaaGreatDoor
/-
  Bytes compared.
-/
namespace Go.Proofs.YtpfehnopghffjaaGreatDoor
open Go
end Go.Proofs.YtpfehnopghffjaaGreatDoor
/-
  Package disk: a loss of power; a write; all made sure; two disks compared.
-/
namespace Go.Proofs.YtpfehnopghffjaaGreatDoor
open Go disk
namespace disk
theorem check_no {d : Disk} (h : ¬ checkF d = 0) : checkF d = 20 := by
  unfold checkF at h ⊢
  split
  · rfl
  · rename_i c1
    rw [if_neg c1] at h
    split
    · rename_i c2; rw [if_pos c2] at h; exact absurd rfl h
    · rfl
theorem tAct.mk {P : Nat → Prop} {w : World} {a : Act} {u : Value} (h : tBytes.rep P w u a.put.data) (h1 : -9223372036854775808 ≤ a.put.sector ∧ a.put.sector ≤ 9223372036854775807) : tAct.rep P w (.agg #[.bool a.flush, i64 a.put.sector, u]) a := by
  refine ⟨.bool a.flush, .agg #[i64 a.put.sector, u], ?_, rfl, tPut.mk h h1⟩
  rfl
theorem act_one {P : Nat → Prop} {w w2 : World} {E : TypeId} {a : Act} {u : Value} (h : tBytes.rep P w u a.put.data) (hu : u.cells = #[u]) (h1 : -9223372036854775808 ≤ a.put.sector ∧ a.put.sector ≤ 9223372036854775807) (N : New w w2 E [.bool a.flush, i64 a.put.sector, u]) : (Sl tAct).rep All w2 (.slice (some ⟨w.heap.size, 0, none⟩) 1 1) [a] :=
  Sl.mk (us := [.agg #[.bool a.flush, i64 a.put.sector, u]]) (.cons (tAct.mk (tBytes.ext0 (allOf h) N.ext) h1) .nil) (by have := N.blk.cells; exact this) trivial N.blk.lt (by simp) (by simp [Lim]) rfl
end disk
theorem Crash_fn {w : World} {v vk : Value} {d : Disk} {ks : List Bool} (h : tDisk.rep All w v d) (hk : (Sl tBool).rep All w vk ks) : Fn Tryz.prog 42 [v, vk] w (fun r w2 => ∃ v', r = .tuple #[v', i64 (crashF d ks).2] ∧ OwnD w2 v' (crashF d ks).1 (fun k => w.heap.size ≤ k) ∧ Ext (fun _ => False) w w2) := by
  obtain ⟨u, u', rfl, hd, hw, hc1, hc2⟩ := tDisk.val h
  obtain ⟨ak, capk, rfl, hcapk⟩ := Sl.val hk
  have hkR := (Sl tBool).mono hk (P' := fun k => k < w.heap.size) (fun k _ h => h)
  refine Fn.enter (fun w => Tryz.call42 _ w) Tryz.func42 rfl ?_
  refine .seq (.region ?_)
  refine .v rfl rfl (.box rfl) ?_
  rintro _ w2 ⟨rfl, N2⟩
  refine .v rfl rfl (.box rfl) ?_
  rintro _ w3 ⟨rfl, N3⟩
  refine .v rfl rfl (.alloc rfl rfl) ?_
  rintro _ w4 ⟨rfl, N4⟩
  have B2 := N2.blk.ext (N3.ext.trans N4.ext) (fun x => x)
  have z2 : w2.heap.size = w.heap.size + 1 := N2.size
  have z3 : w3.heap.size = w2.heap.size + 1 := N3.size
  have z4 : w4.heap.size = w3.heap.size + 1 := N4.size
  refine .p rfl rfl (.as rfl) ?_
  refine .nil (.code (.seq (.seq (.keep [(4, _), (3, _), (2, _)] ⟨rfl, rfl, rfl, trivial⟩ (.region ?_)))))
  refine .p rfl rfl (.loadA (n := 3) rfl rfl rfl rfl rfl B2.cells) ?_
  refine .call (first := []) (captured := []) rfl rfl rfl rfl (Check_fn (tDisk.ext0 h (N2.ext.trans (N3.ext.trans N4.ext)))) ?_
  rintro _ w12 ⟨rfl, X12⟩
  have hE := N4.blk.ext X12 (fun x => x)
  have z12 : w4.heap.size ≤ w12.heap.size := X12.size
  refine .p rfl rfl (.as rfl) ?_
  refine .nil (.code (.seq (.keep [(6, _), (4, _), (3, _), (2, _)] ⟨rfl, rfl, rfl, rfl, trivial⟩ (.region ?_))))
  refine .p rfl rfl (.mv rfl) ?_
  refine .p rfl rfl (.ne rfl rfl) ?_
  refine .nil (.code (.keep [(11, _), (6, _), (4, _), (3, _), (2, _)] ⟨rfl, rfl, rfl, rfl, rfl, trivial⟩ ?_))
  refine .condD rfl (fun c11 => ?_) (fun c11 => ?_)
  · refine .seq (.keep [(6, _), (4, _)] ⟨rfl, rfl, trivial⟩ (.region ?_))
    refine .p rfl rfl (.build (cs := [i64 0, .slice none 0 0, .slice none 0 0]) rfl (fun _ => by kernel_rfl)) ?_
    refine .p rfl rfl (.mv rfl) ?_
    refine .s rfl (.storeAll (n := 3) rfl rfl rfl rfl rfl hE rfl) ?_
    intro w15 P15
    have z15 : w15.heap.size = w12.heap.size := P15.size
    refine .p rfl rfl (.as rfl) ?_
    refine .nil (.code ?_)
    refine .retR (.cell (n := 3) rfl rfl rfl rfl rfl (P15.blk.cells) (.tmp rfl .nil)) ?_
    have e : crashF d ks = (nodisk, checkF d) := by unfold crashF; rw [if_pos c11]
    rw [e]
    exact ⟨_, rfl, OwnD.none (b1 := w.heap.size) (b2 := w2.heap.size) (by omega) (by omega) (by omega) (Nat.le_refl _) (by show w.heap.size ≤ w2.heap.size; omega), (N2.ext.trans (N3.ext.trans (N4.ext.trans X12))).then P15.ext (by rintro k rfl _; show w.heap.size ≤ w3.heap.size; omega)⟩
  · have hok : checkF d = 0 := Decidable.byContradiction c11
    obtain ⟨k1, k2, k3, k4, k5⟩ := check_ok hok
    refine .skip (.code (.seq (.keep [(4, _), (3, _), (2, _)] ⟨rfl, rfl, rfl, trivial⟩ (.region ?_))))
    refine .p rfl rfl (.loadA (n := 3) rfl rfl rfl rfl rfl (B2.ext X12 (fun x => x)).cells) ?_
    refine .call (first := []) (captured := []) rfl rfl rfl rfl (twin_fn (tDisk.ext0 h (N2.ext.trans (N3.ext.trans (N4.ext.trans X12)))) (by omega)) ?_
    rintro r18 w18 ⟨D18, X18⟩
    have z18 : w12.heap.size ≤ w18.heap.size := X18.size
    obtain ⟨a1, c1, a2, c2, rfl⟩ := D18.val
    refine .v rfl rfl (.alloc rfl rfl) ?_
    rintro _ w7 ⟨rfl, N7⟩
    have z7 : w7.heap.size = w18.heap.size + 1 := N7.size
    refine .s rfl (.storeAll (n := 3) rfl rfl rfl rfl rfl N7.blk rfl) ?_
    intro w19 P19
    have z19 : w19.heap.size = w7.heap.size := P19.size
    have X19 := N7.ext.then P19.ext (by rintro k rfl _; exact Nat.le_refl _)
    have D19 := (D18.mono (P' := fun k => w12.heap.size ≤ k ∧ k ≠ w18.heap.size) (fun k h1 h2 => ⟨h1, Nat.ne_of_lt h2⟩)).ext0 X19
    have Z19 := N4.ext.trans (X12.trans (X18.trans X19))
    have B3 := N3.blk.ext Z19 (fun x => x)
    have hnP : ∀ k, k < w12.heap.size → ¬ (k = w18.heap.size ∨ (w12.heap.size ≤ k ∧ k ≠ w18.heap.size)) := fun k hk h => by rcases h with h | h <;> omega
    refine .nil (.code (.seq (.keep [(7, _), (4, _), (3, _)] ⟨rfl, rfl, rfl, trivial⟩ (.region ?_))))
    refine .p rfl rfl (.makeFunc rfl rfl) ?_
    refine .call (first := []) (captured := []) rfl rfl rfl rfl (settle_fn (f := 109) (cap := [.pointer (some ⟨w2.heap.size, 0, none⟩)]) (keep := fun i => ks.getD i false) P19.blk D19 (fun h => h.2 rfl) hok (fun j w' hj hx => keepAt_fn (by omega) (B3.ext hx (hnP _ (by omega))) (allOf ((Sl tBool).ext ((Sl tBool).ext0 hkR (N2.ext.trans (N3.ext.trans Z19))) hx (fun k hk _ => hnP k (by omega)))))) ?_
    rintro _ w41 ⟨rfl, u3, B41, D41, X41⟩
    obtain ⟨e1, f1, e2, f2, e3⟩ := D41.val
    simp [settleD] at e3
    obtain ⟨rfl, rfl, rfl⟩ := e3
    refine .nil (.code (.seq (.keep [(7, _), (4, _)] ⟨rfl, rfl, trivial⟩ (.region ?_))))
    refine .p rfl rfl (.loadA (n := 3) rfl rfl rfl rfl rfl B41.cells) ?_
    refine .s rfl (.storeAll (n := 3) rfl rfl rfl rfl rfl ((N4.blk.ext (X12.trans (X18.trans X19)) (fun x => x)).ext X41 (hnP _ (by omega))) rfl) ?_
    intro w67 P67
    have z41 : w19.heap.size ≤ w41.heap.size := X41.size
    have z67 : w67.heap.size = w41.heap.size := P67.size
    refine .p rfl rfl (.as rfl) ?_
    refine .nil (.code ?_)
    refine .retR (.cell (n := 3) rfl rfl rfl rfl rfl (P67.blk.cells) (.tmp rfl .nil)) ?_
    have e : crashF d ks = (settleD d (fun i => ks.getD i false), 0) := by unfold crashF; rw [if_neg (by simp [hok])]
    rw [e]
    exact ⟨_, rfl, (D41.ext P67.ext (fun k h _ he => by have h := h.1; have he : k = w3.heap.size := he; omega)).mono (fun k h _ => by have h := h.1; show w.heap.size ≤ k; omega), ((N2.ext.trans (N3.ext.trans Z19)).then X41 (by rintro k (h | h) _ <;> omega)).then P67.ext (by rintro k rfl _; show w.heap.size ≤ w3.heap.size; omega)⟩
end Go.Proofs.YtpfehnopghffjaaGreatDoor
