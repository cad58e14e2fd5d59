import Derived.Test.YtpfehnopghffjaaGreatDoorT17
import Derived.Test.YtpfehnopghffjaaGreatDoorT10
set_option linter.unusedVariables false
set_option linter.unusedSimpArgs false
set_option maxRecDepth 20000
namespace Go.Proofs.YtpfehnopghffjaaGreatDoor
open Go
open room files
attribute [local irreducible] readD slotB slotF mountF slotOK checkR disk.readF findTo findF writeF nameF sectE bytesF
theorem refSameDirT_fn {w : World} {v u : Value} {x : Dir} (ha : tDir.rep All w v x) (hb : tDir.rep All w u x) : Fn Tryz.prog 16 [v, u] w (fun r w2 => r = .bool true ∧ Ext (fun _ => False) w w2) := by
 obtain ⟨a, cap, rfl, hf, hg⟩ := tDir.val ha
 obtain ⟨a', cap', rfl, hf', _⟩ := tDir.val hb
 have hlim := Sl.lim hf
 simp only [Lim] at hlim
 refine Fn.enter (fun w => Tryz.call16 _ w) Tryz.func16 rfl ?_
 refine .seq (.region ?_)
 refine .v rfl rfl (.box rfl) ?_
 rintro _ w2 ⟨rfl, N2⟩
 have B2 := N2.blk
 have X2 := N2.ext
 have z2 := N2.size
 refine .v rfl rfl (.box rfl) ?_
 rintro _ w3 ⟨rfl, N3⟩
 have B3 := N3.blk
 have X3 := N3.ext
 have z3 := N3.size
 refine .p rfl rfl (.as rfl) (.nil (.code (.seq (.seq (.keep [(3, _), (2, _)] ⟨rfl, rfl, trivial⟩ (.region ?_))))))
 refine .p rfl rfl (.fieldAddr rfl rfl rfl rfl) (.p rfl rfl (.load rfl rfl rfl ((B2.ext (S := fun _ => False) (by repeat (first | exact Ext.refl _ | assumption | refine Ext.trans (by assumption) ?_)) (fun x => x)).cell 0)) ?_)
 refine .p rfl rfl (.fieldAddr rfl rfl rfl rfl) (.p rfl rfl (.load rfl rfl rfl ((B3.ext (S := fun _ => False) (by repeat (first | exact Ext.refl _ | assumption | refine Ext.trans (by assumption) ?_)) (fun x => x)).cell 0)) ?_)
 refine .p rfl rfl (.no (.ne rfl rfl) (fun h => h rfl)) (.p rfl rfl (.mv rfl) (.p rfl rfl (.fieldAddr rfl rfl rfl rfl) (.p rfl rfl (.load rfl rfl rfl ((B2.ext (S := fun _ => False) (by repeat (first | exact Ext.refl _ | assumption | refine Ext.trans (by assumption) ?_)) (fun x => x)).cell 1)) ?_)))
 refine .p rfl rfl (.len rfl rfl) (.p rfl rfl (.fieldAddr rfl rfl rfl rfl) (.p rfl rfl (.load rfl rfl rfl ((B3.ext (S := fun _ => False) (by repeat (first | exact Ext.refl _ | assumption | refine Ext.trans (by assumption) ?_)) (fun x => x)).cell 1)) ?_))
 refine .p rfl rfl (.len rfl rfl) (.p rfl rfl (.no (.ne rfl rfl) (fun h => h rfl)) (.p rfl rfl (.pickF rfl rfl) (.nil (.code (.keep [(21, _), (3, _), (2, _)] ⟨rfl, rfl, rfl, trivial⟩ (.condF rfl (.skip (.code (.seq (.seq (.keep [(3, _), (2, _)] ⟨rfl, rfl, trivial⟩ (.region ?_))))))))))))
 refine .p rfl rfl (.as rfl) (.nil (.code (.block ?_)))
 refine .loop (S := Nat × World) (fun s => [(2, .pointer (some ⟨w.heap.size, 0, none⟩)), (3, .pointer (some ⟨w2.heap.size, 0, none⟩)), (5, i64 s.1)]) (fun s => s.2) (fun s => s.1 ≤ x.fs.length ∧ Ext (fun _ => False) w3 s.2) (fun s => x.fs.length - s.1) (0, w3) ⟨rfl, rfl, rfl, trivial⟩ rfl ⟨Nat.zero_le _, .refl _⟩ ?_
 rintro ⟨i, wi⟩ J ⟨hi', hX⟩ again
 simp only at hi' hX
 have zi := hX.size
 change G _ [(2, .pointer (some ⟨w.heap.size, 0, none⟩)), (3, .pointer (some ⟨w2.heap.size, 0, none⟩)), (5, i64 i)] _ _ wi
 refine .seq (.seq (.region ?_))
 refine .p rfl rfl (.mv rfl) (.p rfl rfl (.fieldAddr rfl rfl rfl rfl) (.p rfl rfl (.load rfl rfl rfl ((B2.ext (S := fun _ => False) (by repeat (first | exact Ext.refl _ | assumption | refine Ext.trans (by assumption) ?_)) (fun x => x)).cell 1)) ?_))
 refine .p rfl rfl (.len rfl rfl) (.p rfl rfl (.lt rfl rfl) (.nil (.code (.keep [(26, _), (2, _), (3, _), (5, _)] ⟨rfl, rfl, rfl, rfl, trivial⟩ ?_))))
 refine .condD rfl (fun c26 => ?_) (fun c26 => ?_)
 ·have hi : i < x.fs.length := by omega
  obtain ⟨b1, o1, q1, ue1, e1, _, hcs, hre⟩ := Sl.at hf (List.getElem?_eq_getElem hi)
  cases e1
  obtain ⟨fa1, fc1, rfl, hps, hnm, hsz⟩ := tFile.val hre
  obtain ⟨b2, o2, q2, ue2, e2, _, hcs', hre'⟩ := Sl.at hf' (List.getElem?_eq_getElem hi)
  cases e2
  obtain ⟨fa2, fc2, rfl, hps', hnm', hsz'⟩ := tFile.val hre'
  refine .skip (.code (.seq (.block (.seq (.keep [(2, _), (3, _), (5, _)] ⟨rfl, rfl, rfl, trivial⟩ ?_)))))
  refine .meet (S := Nat × Nat × World) (fun s => [(2, .pointer (some ⟨w.heap.size, 0, none⟩)), (3, .pointer (some ⟨w2.heap.size, 0, none⟩)), (5, i64 (i : Nat)), (6, .pointer (some ⟨s.1, 0, none⟩)), (7, .pointer (some ⟨s.2.1, 0, none⟩))]) (fun s => s.2.2) (fun s => Blk s.2.2 s.1 28 [str x.fs[i].name, i64 x.fs[i].size, .slice fa1 x.fs[i].ps.length fc1] ∧ Blk s.2.2 s.2.1 28 [str x.fs[i].name, i64 x.fs[i].size, .slice fa2 x.fs[i].ps.length fc2] ∧ Ext (fun _ => False) wi s.2.2) ?_ ?_
  ·rintro ⟨p6, p7, wm⟩ ⟨B6, B7, Xm⟩
   simp only at B6 B7 Xm
   have zm := Xm.size
   change A _ [(2, .pointer (some ⟨w.heap.size, 0, none⟩)), (3, .pointer (some ⟨w2.heap.size, 0, none⟩)), (5, i64 (i : Nat)), (6, .pointer (some ⟨p6, 0, none⟩)), (7, .pointer (some ⟨p7, 0, none⟩))] _ wm
   refine .code (.seq (.region ?_))
   refine .p rfl rfl (.fieldAddr rfl rfl rfl rfl) (.p rfl rfl (.load rfl rfl rfl ((B6.ext (S := fun _ => False) (by repeat (first | exact Ext.refl _ | assumption | refine Ext.trans (by assumption) ?_)) (fun x => x)).cell 0)) ?_)
   refine .p rfl rfl (.fieldAddr rfl rfl rfl rfl) (.p rfl rfl (.load rfl rfl rfl ((B7.ext (S := fun _ => False) (by repeat (first | exact Ext.refl _ | assumption | refine Ext.trans (by assumption) ?_)) (fun x => x)).cell 0)) ?_)
   refine .p rfl rfl (.no (.neS rfl rfl) (fun h => h rfl)) (.p rfl rfl (.mv rfl) (.p rfl rfl (.fieldAddr rfl rfl rfl rfl) (.p rfl rfl (.load rfl rfl rfl ((B6.ext (S := fun _ => False) (by repeat (first | exact Ext.refl _ | assumption | refine Ext.trans (by assumption) ?_)) (fun x => x)).cell 1)) ?_)))
   refine .p rfl rfl (.fieldAddr rfl rfl rfl rfl) (.p rfl rfl (.load rfl rfl rfl ((B7.ext (S := fun _ => False) (by repeat (first | exact Ext.refl _ | assumption | refine Ext.trans (by assumption) ?_)) (fun x => x)).cell 1)) ?_)
   refine .p rfl rfl (.no (.ne rfl rfl) (fun h => h rfl)) (.p rfl rfl (.pickF rfl rfl) (.p rfl rfl (.mv rfl) (.p rfl rfl (.fieldAddr rfl rfl rfl rfl) (.p rfl rfl (.load rfl rfl rfl ((B6.ext (S := fun _ => False) (by repeat (first | exact Ext.refl _ | assumption | refine Ext.trans (by assumption) ?_)) (fun x => x)).cell 2)) ?_))))
   refine .p rfl rfl (.fieldAddr rfl rfl rfl rfl) (.p rfl rfl (.load rfl rfl rfl ((B7.ext (S := fun _ => False) (by repeat (first | exact Ext.refl _ | assumption | refine Ext.trans (by assumption) ?_)) (fun x => x)).cell 2)) ?_)
   refine .call (first := []) (captured := []) rfl rfl rfl rfl (RefSameT_fn (allOf ((Sl tPiece).ext0 hps (by repeat (first | exact Ext.refl _ | assumption | refine Ext.trans (by assumption) ?_)))) (allOf ((Sl tPiece).ext0 hps' (by repeat (first | exact Ext.refl _ | assumption | refine Ext.trans (by assumption) ?_))))) ?_
   rintro _ w56 ⟨rfl, X56⟩
   have z56 := X56.size
   refine .p rfl rfl (.not rfl) (.p rfl rfl (.pickF rfl rfl) (.nil (.code (.keep [(58, _), (2, _), (3, _), (5, _)] ⟨rfl, rfl, rfl, rfl, trivial⟩ (.condF rfl (.skip (.blk (.code (.keep [(2, _), (3, _), (5, _)] ⟨rfl, rfl, rfl, trivial⟩ (.region ?_))))))))))
   refine .p rfl rfl (.mv rfl) (.p rfl rfl (.add rfl rfl (by omega)) (.p rfl rfl (.as rfl) (.nil ?_)))
   exact (again (i + 1, w56) ⟨by show i + 1 ≤ _; omega, (by repeat (first | exact Ext.refl _ | assumption | refine Ext.trans (by assumption) ?_))⟩ (by show _ - (i + 1) < _ - i; omega)).of ⟨rfl, rfl, rfl, trivial⟩
  ·intro meet
   refine .tree (fun k => wi.heap.size ≤ k) [10, 11, 12, 13] (.op 0 (.op 1 (.op 2 (.op 3 (.op 4 (.op 5 (.op 6 (.op 7 (.op 8 (.op 9 (.alt 10 (.op 10 (.alt 11 (.op 11 (.alt 12 (.op 12 (.alt 13 (.op 13 (.nil)) (.stop))) (.stop))) (.stop))) (.alt 11 (.op 11 (.alt 10 (.op 10 (.alt 12 (.op 12 (.alt 13 (.op 13 (.nil)) (.stop))) (.stop))) (.stop))) (.stop))))))))))))) (by kernel_rfl) (by kernel_rfl) (by kernel_rfl) (.p rfl rfl rfl rfl (fun wx hx => .fieldAddr rfl rfl rfl rfl) (.p rfl rfl rfl rfl (fun wx hx => .load rfl rfl rfl ((B2.ext (S := fun _ => False) (Ext.then (S := fun k => wi.heap.size ≤ k) (by repeat (first | exact Ext.refl _ | assumption | refine Ext.trans (by assumption) ?_)) hx (fun k h _ => by have h : wi.heap.size ≤ k := h; omega)) (fun x => x)).cell 1)) ?_))
   refine .p rfl rfl rfl rfl (fun wx hx => .mv rfl) (.p rfl rfl rfl rfl (fun wx hx => .indexAddr (s := 3) rfl rfl rfl rfl (by omega)) (.p rfl rfl rfl rfl (fun wx hx => .loadA (n := 3) rfl rfl rfl rfl rfl (hcs.ext (S := fun _ => False) (Ext.then (S := fun k => wi.heap.size ≤ k) (by repeat (first | exact Ext.refl _ | assumption | refine Ext.trans (by assumption) ?_)) hx (fun k h _ => by have h : wi.heap.size ≤ k := h; omega)) (fun x => x))) ?_))
   refine .p rfl rfl rfl rfl (fun wx hx => .fieldAddr rfl rfl rfl rfl) (.p rfl rfl rfl rfl (fun wx hx => .load rfl rfl rfl ((B3.ext (S := fun _ => False) (Ext.then (S := fun k => wi.heap.size ≤ k) (by repeat (first | exact Ext.refl _ | assumption | refine Ext.trans (by assumption) ?_)) hx (fun k h _ => by have h : wi.heap.size ≤ k := h; omega)) (fun x => x)).cell 1)) ?_)
   refine .p rfl rfl rfl rfl (fun wx hx => .mv rfl) (.p rfl rfl rfl rfl (fun wx hx => .indexAddr (s := 3) rfl rfl rfl rfl (by omega)) (.p rfl rfl rfl rfl (fun wx hx => .loadA (n := 3) rfl rfl rfl rfl rfl (hcs'.ext (S := fun _ => False) (Ext.then (S := fun k => wi.heap.size ≤ k) (by repeat (first | exact Ext.refl _ | assumption | refine Ext.trans (by assumption) ?_)) hx (fun k h _ => by have h : wi.heap.size ≤ k := h; omega)) (fun x => x))) ?_))
   refine .alt ?_ ?_
   ·refine .v rfl rfl rfl rfl (.alloc rfl rfl) (by rintro _ _ ⟨_, hN⟩; exact ((Ext.refl _)).trans hN.ext0) ?_
    rintro _ w6 ⟨rfl, N6⟩
    have hX6 : Ext (fun k => wi.heap.size ≤ k) _ _ := (Ext.refl _).trans (N6.ext0)
    have z6 := N6.size
    refine .alt ?_ ?_
    ·refine .v rfl rfl rfl rfl (.alloc rfl rfl) (by rintro _ _ ⟨_, hN⟩; exact hX6.trans hN.ext0) ?_
     rintro _ w7 ⟨rfl, N7⟩
     have hX7 : Ext (fun k => wi.heap.size ≤ k) _ _ := hX6.trans (N7.ext0)
     have z7 := N7.size
     refine .alt ?_ ?_
     ·refine .s rfl rfl rfl (.storeAll (n := 3) (E := 28) (cs := [str [], i64 0, .slice none 0 0]) rfl rfl rfl rfl rfl (by first | exact N6.blk.ext N7.ext (fun x => x) | exact N6.blk) rfl) (by intro wz hP; exact hX7.trans (hP.ext.mono (by rintro k _ rfl; show wi.heap.size ≤ _; omega))) ?_
      intro w12 P12
      have hXs12 : Ext (fun k => wi.heap.size ≤ k) _ _ := hX7.trans (P12.ext.mono (by rintro k _ rfl; show wi.heap.size ≤ _; omega))
      refine .alt ?_ ?_
      ·refine .s rfl rfl rfl (.storeAll (n := 3) (E := 28) (cs := [str [], i64 0, .slice none 0 0]) rfl rfl rfl rfl rfl (by first | exact (N7.blk.ext N6.ext (fun x => x)).ext P12.ext (by omega) | exact N7.blk.ext P12.ext (by omega)) rfl) (by intro wz hP; exact hXs12.trans (hP.ext.mono (by rintro k _ rfl; show wi.heap.size ≤ _; omega))) ?_
       intro w13 P13
       have hXs13 : Ext (fun k => wi.heap.size ≤ k) _ _ := hXs12.trans (P13.ext.mono (by rintro k _ rfl; show wi.heap.size ≤ _; omega))
       refine .nil ?_
       exact (meet (wi.heap.size, w6.heap.size, w13) ⟨P12.blk.ext P13.ext (by omega), P13.blk, (Ext.refl wi).then (S := fun k => wi.heap.size ≤ k) hXs13 (fun k h _ => h)⟩).of ⟨rfl, rfl, rfl, rfl, rfl, trivial⟩
      exact .stop
     exact .stop
    exact .stop
   refine .alt ?_ ?_
   ·refine .v rfl rfl rfl rfl (.alloc rfl rfl) (by rintro _ _ ⟨_, hN⟩; exact ((Ext.refl _)).trans hN.ext0) ?_
    rintro _ w7 ⟨rfl, N7⟩
    have hX7 : Ext (fun k => wi.heap.size ≤ k) _ _ := (Ext.refl _).trans (N7.ext0)
    have z7 := N7.size
    refine .alt ?_ ?_
    ·refine .v rfl rfl rfl rfl (.alloc rfl rfl) (by rintro _ _ ⟨_, hN⟩; exact hX7.trans hN.ext0) ?_
     rintro _ w6 ⟨rfl, N6⟩
     have hX6 : Ext (fun k => wi.heap.size ≤ k) _ _ := hX7.trans (N6.ext0)
     have z6 := N6.size
     refine .alt ?_ ?_
     ·refine .s rfl rfl rfl (.storeAll (n := 3) (E := 28) (cs := [str [], i64 0, .slice none 0 0]) rfl rfl rfl rfl rfl (by first | exact N6.blk.ext N7.ext (fun x => x) | exact N6.blk) rfl) (by intro wz hP; exact hX6.trans (hP.ext.mono (by rintro k _ rfl; show wi.heap.size ≤ _; omega))) ?_
      intro w12 P12
      have hXs12 : Ext (fun k => wi.heap.size ≤ k) _ _ := hX6.trans (P12.ext.mono (by rintro k _ rfl; show wi.heap.size ≤ _; omega))
      refine .alt ?_ ?_
      ·refine .s rfl rfl rfl (.storeAll (n := 3) (E := 28) (cs := [str [], i64 0, .slice none 0 0]) rfl rfl rfl rfl rfl (by first | exact (N7.blk.ext N6.ext (fun x => x)).ext P12.ext (by omega) | exact N7.blk.ext P12.ext (by omega)) rfl) (by intro wz hP; exact hXs12.trans (hP.ext.mono (by rintro k _ rfl; show wi.heap.size ≤ _; omega))) ?_
       intro w13 P13
       have hXs13 : Ext (fun k => wi.heap.size ≤ k) _ _ := hXs12.trans (P13.ext.mono (by rintro k _ rfl; show wi.heap.size ≤ _; omega))
       refine .nil ?_
       exact (meet (w7.heap.size, wi.heap.size, w13) ⟨P12.blk.ext P13.ext (by omega), P13.blk, (Ext.refl wi).then (S := fun k => wi.heap.size ≤ k) hXs13 (fun k h _ => h)⟩).of ⟨rfl, rfl, rfl, rfl, rfl, trivial⟩
      exact .stop
     exact .stop
    exact .stop
   exact .stop
 ·refine .exit rfl (.code (.seq (.keep [] trivial (.region ?_))))
  refine .p rfl rfl (.as rfl) (.nil (.code ?_))
  refine .ret _ rfl ?_
  exact ⟨rfl, (by repeat (first | exact Ext.refl _ | assumption | refine Ext.trans (by assumption) ?_))⟩
end Go.Proofs.YtpfehnopghffjaaGreatDoor
namespace Go.Proofs.YtpfehnopghffjaaGreatDoor
open Go
open room files
theorem set_at {b : Bs} {N i : Nat} (hi : i < b.length) (hN : i < N) : (((b.take i ++ List.replicate (N - i) 0).map u8).set i (u8 b[i])) = (b.take (i + 1) ++ List.replicate (N - (i + 1)) 0).map u8 := by
 rw [← List.map_set]
 congr 1
 have hl : (b.take i).length = i := by rw [List.length_take]; omega
 rw [List.set_append_right _ _ (by omega), hl, Nat.sub_self, show N - i = (N - (i + 1)) + 1 by omega, List.replicate_succ, List.set_cons_zero, List.take_succ_eq_append_getElem hi, List.append_assoc]
 rfl
namespace files
section
variable {c : Int} {x : Change} {L : List Change} {fs : List File} {zs : List disk.Act} {us : List Piece} {P0 : List File × List disk.Act × Int}
theorem pr_30 (h : P0 = putsF c (x :: L) fs zs us) (hn : 4096 < needF x.value.length) : P0.2.2 = 30 := by rw [h, putsF, if_pos hn]
theorem pr_e (h : P0 = putsF c (x :: L) fs zs us) (hn : ¬ 4096 < needF x.value.length) (he : ¬ takeE 80 c us (needF x.value.length) = 0) : P0.2.2 = takeE 80 c us (needF x.value.length) := by rw [h, putsF, if_neg hn, if_pos he]
theorem pr_s (h : P0 = putsF c (x :: L) fs zs us) (hn : ¬ 4096 < needF x.value.length) (he : takeE 80 c us (needF x.value.length) = 0) {p : List Piece} (hp : p = takeL 80 c us (needF x.value.length)) : P0 = putsF c L (fs ++ [⟨x.key, x.value.length, p⟩]) (zs ++ actsV p x.value) (us ++ p) := by
 subst hp
 rw [h, putsF, if_neg hn, if_neg (fun x => x he)]
end
theorem fresh_drop {l : List Change} {i : Nat} (hi : i < l.length) (hg : l[i].gone = false) : freshN (l.drop i) = l[i] :: freshN (l.drop (i + 1)) := by
 rw [List.drop_eq_getElem_cons hi]
 unfold freshN
 rw [List.filter_cons, hg]
 rfl
theorem gone_drop {l : List Change} {i : Nat} (hi : i < l.length) (hg : l[i].gone = true) : freshN (l.drop i) = freshN (l.drop (i + 1)) := by
 rw [List.drop_eq_getElem_cons hi]
 unfold freshN
 rw [List.filter_cons, hg]
 rfl
theorem fresh_take {l : List Change} {i : Nat} (hi : i < l.length) (hg : l[i].gone = false) : freshN (l.take (i + 1)) = freshN (l.take i) ++ [l[i]] := by
 rw [List.take_succ_eq_append_getElem hi]
 unfold freshN
 rw [List.filter_append, List.filter_cons, hg]
 rfl
theorem gone_take {l : List Change} {i : Nat} (hi : i < l.length) (hg : l[i].gone = true) : freshN (l.take (i + 1)) = freshN (l.take i) := by
 rw [List.take_succ_eq_append_getElem hi]
 unfold freshN
 rw [List.filter_append, List.filter_cons, hg]
 simp
theorem fresh_le (l : List Change) (i : Nat) : (freshN (l.take i)).length ≤ (freshN l).length := by
 have : freshN l = freshN (l.take i) ++ freshN (l.drop i) := by unfold freshN; rw [← List.filter_append, List.take_append_drop]
 rw [this, List.length_append]
 omega
theorem fresh_len (l : List Change) : (freshN l).length ≤ l.length := List.length_filter_le _ _
theorem keep_step {fs : List File} {p : File → Bool} {i : Nat} (hi : i < fs.length) : (fs.take (i + 1)).filter p = (fs.take i).filter p ++ (if p fs[i] = true then [fs[i]] else []) := by
 rw [List.take_succ_eq_append_getElem hi, List.filter_append, List.filter_cons, List.filter_nil]
theorem keep_yes {f : File} {l : List Change} (h : ¬ f.name ∈ l.map (·.key)) : (!decide (f.name ∈ l.map (·.key))) = true := by rw [decide_eq_false h]; rfl
theorem keep_no {f : File} {l : List Change} (h : f.name ∈ l.map (·.key)) : ¬ (!decide (f.name ∈ l.map (·.key))) = true := by rw [decide_eq_true h]; exact fun h => by cases h
theorem insF_len (f : File) : ∀ l : List File, (insF l f).length = l.length + 1
 | [] => rfl
 | g :: l => by rw [insF]; split; rfl; rw [List.length_cons, insF_len f l]; rfl
theorem writeF_big {x : Dir} (h : 4611686018427387904 ≤ x.gen) : ¬ (writeF x).2 = 0 := fun hw => by
 have := (checkD_ok (writeF_ok (b := (writeF x).1) (Prod.ext rfl hw)).1).2.1.2
 omega
theorem sec_length (v : Bs) (k : Nat) : (secV v k).length = 128 := by
 unfold secV
 rw [List.length_append, List.length_replicate, List.length_take]
 omega
theorem sec_data {v : Bs} {k n : Nat} (h1 : n ≤ 128) (h2 : n ≤ (v.drop (k * 128)).length) (h3 : n = 128 ∨ n = (v.drop (k * 128)).length) : (v.drop (k * 128)).take n ++ List.replicate (128 - n) 0 = secV v k := by
 unfold secV
 have e : (v.drop (k * 128)).take n = (v.drop (k * 128)).take 128 := by
  rcases h3 with h | h
  ·rw [h]
  ·rw [List.take_of_length_le (by omega), List.take_of_length_le (by omega)]
 rw [e, List.length_take]
 congr 2
 omega
structure TR (w0 : World) (γ : Nat → Nat) (us : List Piece) (zs : List disk.Act) (fs : List File) (vU vA vF : Value) (W : World) : Prop where
 o1 : OwnO tPiece (fun _ => False) 40 W vU us (fun k => γ k = 1)
 o2 : OwnO disk.tAct (fun k => γ k = 0) 78 W vA zs (fun k => γ k = 2)
 o3 : (Sl tFile).rep (fun k => γ k = 0) W vF fs
 ext : Ext (fun _ => False) w0 W
 low : ∀ k, k < w0.heap.size → γ k = 0
section
variable {w0 W W' : World} {γ : Nat → Nat} {us us' : List Piece} {zs zs' : List disk.Act} {fs fs' : List File} {vU vA vF vU' vA' vF' : Value}
theorem TR.quiet (h : TR w0 γ us zs fs vU vA vF W) (hx : Ext (fun _ => False) W W') : TR w0 (col γ W.heap.size 0) us zs fs vU vA vF W' := by
 have hs := h.ext.size
 exact ⟨own_colF0 h.o1 hx, own_col0 h.o2 hx, rep_col0 h.o3 hx, h.ext.trans hx, fun k hk => by rw [col_old (by omega)]; exact h.low k hk⟩
theorem TR.colour (h : TR w0 γ us zs fs vU vA vF W) {k ψ : Nat} (h0 : ψ ≠ 0) (hk : col γ W.heap.size ψ k = ψ) (hl : k < W.heap.size) : w0.heap.size ≤ k := by
 rw [col_old hl] at hk
 rcases Nat.lt_or_ge k w0.heap.size with h2 | h2
 ·rw [h.low k h2] at hk; exact absurd hk.symm h0
 ·exact h2
theorem TR.app1 (h : TR w0 γ us zs fs vU vA vF W) (hx : Ext (fun k => col γ W.heap.size 1 k = 1) W W') (ho : OwnO tPiece (fun _ => False) 40 W' vU' us' (fun k => col γ W.heap.size 1 k = 1)) : TR w0 (col γ W.heap.size 1) us' zs fs vU' vA vF W' := by
 have hs := h.ext.size
 exact ⟨ho, own_col h.o2 hx (by decide) (by decide), rep_col h.o3 hx (by decide), h.ext.then hx (fun k e hl => h.colour (by decide) e hl), fun k hk => by rw [col_old (by omega)]; exact h.low k hk⟩
theorem TR.app2 (h : TR w0 γ us zs fs vU vA vF W) (hx : Ext (fun k => col γ W.heap.size 2 k = 2) W W') (ho : OwnO disk.tAct (fun k => col γ W.heap.size 2 k = 0) 78 W' vA' zs' (fun k => col γ W.heap.size 2 k = 2)) : TR w0 (col γ W.heap.size 2) us zs' fs vU vA' vF W' := by
 have hs := h.ext.size
 exact ⟨own_colF h.o1 hx (by decide), ho, rep_col h.o3 hx (by decide), h.ext.then hx (fun k e hl => h.colour (by decide) e hl), fun k hk => by rw [col_old (by omega)]; exact h.low k hk⟩
theorem TR.files (h : TR w0 γ us zs fs vU vA vF W) (hx : Ext (fun _ => False) W W') (ho : OwnO tFile (fun k => γ k = 0 ∧ k < W.heap.size) 28 W' vF' fs' (fun k => W.heap.size ≤ k)) : TR w0 (col γ W.heap.size 0) us zs fs' vU vA vF' W' := by
 have q := h.quiet hx
 exact ⟨q.o1, q.o2, OwnO.rep ho (fun k hk _ => col_new hk) (fun k hk _ => by show col _ _ _ _ = _; rw [col_old hk.2]; exact hk.1), q.ext, q.low⟩
end
end files
attribute [local irreducible] readD slotB slotF mountF slotOK checkR disk.readF findTo findF writeF nameF sectE bytesF genTo turnF wrongF sortN putsF
set_option maxHeartbeats 4000000 in
theorem RefTurn_fn {w : World} {v vl : Value} {d : Disk} {l : List Change} (h : disk.tDisk.rep All w v d) (hl : (Sl tree.tChange).rep All w vl l) : Fn Tryz.prog 33 [v, vl] w (fun r w2 => ∃ v', r = .tuple #[v', i64 (turnF d l).2] ∧ (Sl disk.tAct).rep All w2 v' (turnF d l).1 ∧ Ext (fun _ => False) w w2) := by
 have h0 := h
 obtain ⟨u, u', rfl, hd1, hd2, hdc⟩ := disk.tDisk.val h
 obtain ⟨a1, k1, rfl, _⟩ := Sl.val hd1
 obtain ⟨a2, k2, rfl, _⟩ := Sl.val hd2
 obtain ⟨al, kl, rfl, hkl⟩ := Sl.val hl
 have hll := Sl.lim hl
 simp only [Lim] at hll
 refine Fn.enter (fun w => Tryz.call33 _ w) Tryz.func33 rfl ?_
 refine .seq (.region ?_)
 refine .v rfl rfl (.box rfl) ?_
 rintro _ w2 ⟨rfl, N2⟩
 have B2 := N2.blk
 have X2 := N2.ext
 have z2 := N2.size
 refine .p rfl rfl (.as rfl) (.p rfl rfl (.as rfl) (.nil (.code (.seq (.keep [(2, _), (1, _)] ⟨rfl, rfl, trivial⟩ (.region ?_))))))
 refine .p rfl rfl (.loadA (n := 3) rfl rfl rfl rfl rfl (B2.ext (S := fun _ => False) (by repeat (first | exact Ext.refl _ | assumption | refine Ext.trans (by assumption) ?_)) (fun x => x)).cells) ?_
 refine .call (first := []) (captured := []) rfl rfl rfl rfl (refMounted_fn (disk.tDisk.ext0 h0 (by repeat (first | exact Ext.refl _ | assumption | refine Ext.trans (by assumption) ?_)))) ?_
 rintro _ w31 ⟨u31, rfl, R31, X31⟩
 have z31 := X31.size
 obtain ⟨af, kf, rfl, hf, hgen⟩ := tDir.val R31
 refine .p rfl rfl (.mv rfl) (.p rfl rfl (.extract rfl rfl) (.p rfl rfl (.extract rfl rfl) (.p rfl rfl (.extract rfl rfl) (.v rfl rfl (.alloc rfl rfl) ?_))))
 rintro _ wn6 ⟨rfl, N6⟩
 refine .s rfl (.storeAll (n := 2) rfl rfl rfl rfl rfl N6.blk rfl) ?_
 intro w6 P6
 have Y6 := N6.ext.then P6.ext (by rintro k rfl _; exact Nat.le_refl _)
 have zy6 := Y6.size
 have B6 := P6.blk
 clear P6 N6
 have lb6 := B6.lt
 refine .p rfl rfl (.as rfl) (.p rfl rfl (.as rfl) (.nil (.code (.seq (.seq (.keep [(8, _), (7, _), (6, _), (2, _), (1, _)] ⟨rfl, rfl, rfl, rfl, rfl, trivial⟩ (.region ?_)))))))
 refine .p rfl rfl (.mv rfl) (.p rfl rfl (.ne rfl rfl) (.nil (.code (.keep [(36, _), (8, _), (7, _), (6, _), (2, _), (1, _)] ⟨rfl, rfl, rfl, rfl, rfl, rfl, trivial⟩ ?_))))
 refine .condD rfl (fun c36 => ?_) (fun c36 => ?_)
 ·refine .seq (.keep [(8, _)] ⟨rfl, trivial⟩ (.region ?_))
  refine .p rfl rfl (.mv rfl) (.p rfl rfl (.as rfl) (.p rfl rfl (.as rfl) (.nil (.code ?_))))
  refine .ret _ rfl ?_
  rw [turnF_m c36]
  exact ⟨_, rfl, Sl.nil, (by repeat (first | exact Ext.refl _ | assumption | refine Ext.trans (by assumption) ?_))⟩
 ·have hm0 : (mountF d).2.2 = 0 := Decidable.not_not.1 c36
  obtain ⟨hck, h96, h32, hmay, hckr, hup⟩ := mount_may hm0
  have hat := (mountF_ok hm0).2.2.1
  have hat8 : (mountF d).2.1 ≤ 8 := by omega
  refine .skip (.code (.seq (.keep [(7, _), (6, _), (2, _), (1, _)] ⟨rfl, rfl, rfl, rfl, trivial⟩ (.region ?_))))
  refine .p rfl rfl (.loadA (n := 2) rfl rfl rfl rfl rfl (B6.ext (S := fun _ => False) (by repeat (first | exact Ext.refl _ | assumption | refine Ext.trans (by assumption) ?_)) (fun x => x)).cells) ?_
  refine .p rfl rfl (.mv rfl) (.call (first := []) (captured := []) rfl rfl rfl rfl (refWrong_fn (x := (mountF d).1) (l := l) (allOf (tDir.ext0 R31 (by repeat (first | exact Ext.refl _ | assumption | refine Ext.trans (by assumption) ?_)))) ((Sl tree.tChange).ext0 hl (by repeat (first | exact Ext.refl _ | assumption | refine Ext.trans (by assumption) ?_)))) ?_)
  rintro _ w40 ⟨rfl, X40⟩
  have z40 := X40.size
  refine .p rfl rfl (.as rfl) (.nil (.code (.seq (.seq (.keep [(8, _), (7, _), (6, _), (2, _), (1, _)] ⟨rfl, rfl, rfl, rfl, rfl, trivial⟩ (.region ?_))))))
  refine .p rfl rfl (.mv rfl) (.p rfl rfl (.ne rfl rfl) (.nil (.code (.keep [(42, _), (8, _), (7, _), (6, _), (2, _), (1, _)] ⟨rfl, rfl, rfl, rfl, rfl, rfl, trivial⟩ ?_))))
  refine .condD rfl (fun c42 => ?_) (fun c42 => ?_)
  ·refine .seq (.keep [(8, _)] ⟨rfl, trivial⟩ (.region ?_))
   refine .p rfl rfl (.mv rfl) (.p rfl rfl (.as rfl) (.p rfl rfl (.as rfl) (.nil (.code ?_))))
   refine .ret _ rfl ?_
   rw [turnF_e hm0 c42]
   exact ⟨_, rfl, Sl.nil, (by repeat (first | exact Ext.refl _ | assumption | refine Ext.trans (by assumption) ?_))⟩
  ·have hw0 : wrongF (mountF d).1 l = 0 := Decidable.not_not.1 c42
   have hl64 := (wrongF_0 hw0).1
   have Zw6 : Ext (fun _ => False) w w6 := (by repeat (first | exact Ext.refl _ | assumption | refine Ext.trans (by assumption) ?_))
   have B26 : Blk w6 w.heap.size 44 [i64 d.count, .slice a1 d.data.length k1, .slice a2 d.waits.length k2] := B2.ext (S := fun _ => False) (by repeat (first | exact Ext.refl _ | assumption | refine Ext.trans (by assumption) ?_)) (fun x => x)
   refine .skip (.code (.seq (.keep [(7, _), (6, _), (2, _), (1, _)] ⟨rfl, rfl, rfl, rfl, trivial⟩ (.region ?_))))
   refine .p rfl rfl (.as rfl) (.nil (.code (.seq (.seq (.region ?_)))))
   refine .p rfl rfl (.as rfl) (.nil (.code (.block ?_)))
   refine .loop (S := Nat × List File × Value × World) (fun s => [(1, .slice al l.length kl), (2, .pointer (some ⟨w.heap.size, 0, none⟩)), (6, .pointer (some ⟨w31.heap.size, 0, none⟩)), (7, i64 ((mountF d).2.1 : Nat)), (9, s.2.2.1), (10, i64 s.1)]) (fun s => s.2.2.2) (fun s => s.1 ≤ (mountF d).1.fs.length ∧ s.2.1 = ((mountF d).1.fs.take s.1).filter (fun f => !decide (f.name ∈ l.map (·.key))) ∧ OwnO tFile (fun k => k < w6.heap.size) 28 s.2.2.2 s.2.2.1 s.2.1 (fun k => w6.heap.size ≤ k) ∧ Ext (fun _ => False) w6 s.2.2.2) (fun s => (mountF d).1.fs.length - s.1) (0, [], .slice none 0 0, w40) ⟨rfl, rfl, rfl, rfl, rfl, rfl, trivial⟩ rfl ⟨Nat.zero_le _, rfl, OwnO.nil, X40⟩ ?_
   rintro ⟨i, acc, vi, wi⟩ J ⟨hi', ha, hO, hX⟩ again
   simp only at hi' ha hO hX
   have zi := hX.size
   have hal : acc.length ≤ i := by rw [ha]; exact Nat.le_trans (List.length_filter_le _ _) (by rw [List.length_take]; omega)
   change G _ [(1, .slice al l.length kl), (2, .pointer (some ⟨w.heap.size, 0, none⟩)), (6, .pointer (some ⟨w31.heap.size, 0, none⟩)), (7, i64 ((mountF d).2.1 : Nat)), (9, vi), (10, i64 i)] _ _ wi
   refine .seq (.seq (.region ?_))
   refine .p rfl rfl (.mv rfl) (.p rfl rfl (.fieldAddr rfl rfl rfl rfl) (.p rfl rfl (.load rfl rfl rfl ((B6.ext (S := fun _ => False) (by repeat (first | exact Ext.refl _ | assumption | refine Ext.trans (by assumption) ?_)) (fun x => x)).cell 1)) ?_))
   refine .p rfl rfl (.len rfl rfl) (.p rfl rfl (.lt rfl rfl) (.nil (.code (.keep [(48, _), (1, _), (2, _), (6, _), (7, _), (9, _), (10, _)] ⟨rfl, rfl, rfl, rfl, rfl, rfl, rfl, trivial⟩ ?_))))
   refine .condD rfl (fun c48 => ?_) (fun c48 => ?_)
   ·have hi : i < (mountF d).1.fs.length := by omega
    obtain ⟨b1, o1, q1, ue1, e1, _, hcs, hre⟩ := Sl.at hf (List.getElem?_eq_getElem hi)
    cases e1
    obtain ⟨fa1, fc1, rfl, hps, hnm, hsz⟩ := tFile.val hre
    refine .skip (.code (.seq (.block (.seq (.keep [(1, _), (2, _), (6, _), (7, _), (9, _), (10, _)] ⟨rfl, rfl, rfl, rfl, rfl, rfl, trivial⟩ (.region ?_))))))
    refine .p rfl rfl (.mv rfl) (.p rfl rfl (.fieldAddr rfl rfl rfl rfl) (.p rfl rfl (.load rfl rfl rfl ((B6.ext (S := fun _ => False) (by repeat (first | exact Ext.refl _ | assumption | refine Ext.trans (by assumption) ?_)) (fun x => x)).cell 1)) ?_))
    refine .p rfl rfl (.mv rfl) (.p rfl rfl (.indexAddr (s := 3) rfl rfl rfl rfl (by omega)) (.p rfl rfl (.fieldAddr rfl rfl rfl rfl) (.p rfl rfl (.load rfl rfl rfl ((hcs.ext (S := fun _ => False) (by repeat (first | exact Ext.refl _ | assumption | refine Ext.trans (by assumption) ?_)) (fun x => x)) 0 _ rfl)) ?_)))
    refine .call (first := []) (captured := []) rfl rfl rfl rfl (refNamed_fn (l := l) (nm := (mountF d).1.fs[i].name) ((Sl tree.tChange).ext0 hl (by repeat (first | exact Ext.refl _ | assumption | refine Ext.trans (by assumption) ?_)))) ?_
    rintro _ w58 ⟨t58, rfl, ht58, X58⟩
    have z58 := X58.size
    refine .p rfl rfl (.not rfl) (.nil (.code (.keep [(59, _), (1, _), (2, _), (6, _), (7, _), (9, _), (10, _)] ⟨rfl, rfl, rfl, rfl, rfl, rfl, rfl, trivial⟩ ?_)))
    refine .cond rfl (fun c59 => ?_) (fun c59 => ?_)
    ·refine .keep [(1, _), (2, _), (6, _), (7, _), (9, _), (10, _)] ⟨rfl, rfl, rfl, rfl, rfl, rfl, trivial⟩ (.region ?_)
     refine .p rfl rfl (.mv rfl) (.p rfl rfl (.fieldAddr rfl rfl rfl rfl) (.p rfl rfl (.load rfl rfl rfl ((B6.ext (S := fun _ => False) (by repeat (first | exact Ext.refl _ | assumption | refine Ext.trans (by assumption) ?_)) (fun x => x)).cell 1)) ?_))
     refine .p rfl rfl (.mv rfl) (.p rfl rfl (.indexAddr (s := 3) rfl rfl rfl rfl (by omega)) (.p rfl rfl (.loadA (n := 3) rfl rfl rfl rfl rfl (hcs.ext (S := fun _ => False) (by repeat (first | exact Ext.refl _ | assumption | refine Ext.trans (by assumption) ?_)) (fun x => x))) ?_))
     refine .v rfl rfl (.lits rfl rfl (fun _ => by kernel_rfl)) ?_
     rintro _ w66 ⟨rfl, N66⟩
     have z66 := N66.size
     have X66 := N66.ext
     refine .v rfl rfl (.appendLo (t := tFile) (Q := fun k => k < w6.heap.size) (xs := acc) (ys := [(mountF d).1.fs[i]]) (eb := 48) rfl (OwnO.ext0 (OwnO.ext0 hO X58) X66) (fun k hk => by show w6.heap.size ≤ k; omega) rfl (.inr (New.holds (t := tFile) (us := [_]) (xs := [(mountF d).1.fs[i]]) N66 (.cons (tFile.mono (tFile.ext0 (tFile.mono hre (P' := fun k => k < w31.heap.size) (fun k _ hl => hl)) (by repeat (first | exact Ext.refl _ | assumption | refine Ext.trans (by assumption) ?_))) (fun k h _ => by have h : k < w31.heap.size := h; show k < w6.heap.size; omega)) .nil) rfl)) rfl rfl rfl rfl rfl rfl rfl (by simp; omega) (by simp [Lim]; omega) (fun k hk _ hb => by have hk : k < w6.heap.size := hk; have hb : w6.heap.size ≤ k := hb; omega)) ?_
     rintro v67 w67 ⟨O67, A67⟩
     have z67 := A67.size
     refine .p rfl rfl (.as rfl) (.nil (.blk (.code (.keep [(9, _), (1, _), (2, _), (6, _), (7, _), (10, _)] ⟨rfl, rfl, rfl, rfl, rfl, rfl, trivial⟩ (.region ?_)))))
     refine .p rfl rfl (.mv rfl) (.p rfl rfl (.add rfl rfl (by omega)) (.p rfl rfl (.as rfl) (.nil ?_)))
     exact (again (i + 1, acc ++ [(mountF d).1.fs[i]], v67, w67) ⟨by show i + 1 ≤ _; omega, by show _ = _; rw [keep_step hi, ha, if_pos (keep_yes (fun h => by rw [ht58.2 h] at c59; cases c59))], O67, ((hX.trans X58).trans X66).then A67 (fun k h _ => by have h : w6.heap.size ≤ k := h; omega)⟩ (by show _ - (i + 1) < _ - i; omega)).of ⟨rfl, rfl, rfl, rfl, rfl, rfl, trivial⟩
    ·refine .skip (.blk (.code (.keep [(1, _), (2, _), (6, _), (7, _), (9, _), (10, _)] ⟨rfl, rfl, rfl, rfl, rfl, rfl, trivial⟩ (.region ?_))))
     refine .p rfl rfl (.mv rfl) (.p rfl rfl (.add rfl rfl (by omega)) (.p rfl rfl (.as rfl) (.nil ?_)))
     exact (again (i + 1, acc, vi, w58) ⟨by show i + 1 ≤ _; omega, by show _ = _; rw [keep_step hi, ha, if_neg (keep_no (ht58.1 (by simpa using c59))), List.append_nil], OwnO.ext0 hO X58, hX.trans X58⟩ (by show _ - (i + 1) < _ - i; omega)).of ⟨rfl, rfl, rfl, rfl, rfl, rfl, trivial⟩
   ·obtain rfl : i = (mountF d).1.fs.length := by omega
    rw [List.take_length] at ha
    have ha : acc = (keepN (mountF d).1 l) := ha
    subst ha
    obtain ⟨aK, kK, rfl, _⟩ := OwnO.val hO
    obtain ⟨wk, hwk⟩ : ∃ wk, wk = wi := ⟨_, rfl⟩
    subst hwk
    have Zk : Ext (fun _ => False) w6 wk := hX
    have zk := Zk.size
    refine .exit rfl (.code (.seq (.keep [(1, _), (2, _), (6, _), (7, _), (9, _)] ⟨rfl, rfl, rfl, rfl, rfl, trivial⟩ (.region ?_))))
    refine .p rfl rfl (.mv rfl) (.p rfl rfl (.len rfl rfl) (.p rfl rfl (.as rfl) (.nil (.code (.seq (.seq (.keep [(11, _), (1, _), (2, _), (6, _), (7, _), (9, _)] ⟨rfl, rfl, rfl, rfl, rfl, rfl, trivial⟩ (.region ?_))))))))
    refine .p rfl rfl (.as rfl) (.nil (.code (.block ?_)))
    refine .loop (S := Nat) (fun s => [(1, .slice al l.length kl), (2, .pointer (some ⟨w.heap.size, 0, none⟩)), (6, .pointer (some ⟨w31.heap.size, 0, none⟩)), (7, i64 ((mountF d).2.1 : Nat)), (9, .slice aK (keepN (mountF d).1 l).length kK), (11, i64 ((keepN (mountF d).1 l).length + (freshN (l.take s)).length : Nat)), (12, i64 s)]) (fun s => wk) (fun s => s ≤ l.length) (fun s => l.length - s) 0 ⟨rfl, rfl, rfl, rfl, rfl, rfl, rfl, trivial⟩ rfl (Nat.zero_le _) ?_
    intro i J hi' again
    have hfle := fresh_le l i
    have hfl2 := fresh_len l
    refine .seq (.seq (.region ?_))
    refine .p rfl rfl (.mv rfl) (.p rfl rfl (.mv rfl) (.p rfl rfl (.len rfl rfl) (.p rfl rfl (.lt rfl rfl) (.nil (.code (.keep [(73, _), (1, _), (2, _), (6, _), (7, _), (9, _), (11, _), (12, _)] ⟨rfl, rfl, rfl, rfl, rfl, rfl, rfl, rfl, trivial⟩ ?_))))))
    refine .condD rfl (fun c73 => ?_) (fun c73 => ?_)
    ·have hi : i < l.length := by omega
     obtain ⟨bc, oc, qc, uec, ec, _, hcc, hrc⟩ := Sl.at hl (List.getElem?_eq_getElem hi)
     obtain ⟨rfl, hkey, hval⟩ := tree.tChange.val hrc
     simp only [Value.slice.injEq] at ec
     obtain ⟨rfl, -, -⟩ := ec
     simp only [Lim] at hkey hval
     refine .skip (.code (.seq (.block (.seq (.keep [(1, _), (2, _), (6, _), (7, _), (9, _), (11, _), (12, _)] ⟨rfl, rfl, rfl, rfl, rfl, rfl, rfl, trivial⟩ (.region ?_))))))
     refine .p rfl rfl (.mv rfl) (.p rfl rfl (.mv rfl) (.p rfl rfl (.indexAddr (s := 3) rfl rfl rfl rfl (by omega)) (.p rfl rfl (.fieldAddr rfl rfl rfl rfl) (.p rfl rfl (.load rfl rfl rfl (hcc.ext (S := fun _ => False) (Zw6.trans Zk) (fun x => x) 2 _ rfl)) (.p rfl rfl (.not rfl) (.nil (.code (.keep [(81, _), (1, _), (2, _), (6, _), (7, _), (9, _), (11, _), (12, _)] ⟨rfl, rfl, rfl, rfl, rfl, rfl, rfl, rfl, trivial⟩ ?_))))))))
     refine .cond rfl (fun c81 => ?_) (fun c81 => ?_)
     ·refine .keep [(1, _), (2, _), (6, _), (7, _), (9, _), (11, _), (12, _)] ⟨rfl, rfl, rfl, rfl, rfl, rfl, rfl, trivial⟩ (.region ?_)
      refine .p rfl rfl (.mv rfl) (.p rfl rfl (.cast (.add rfl rfl (by omega)) (show _ = i64 (((keepN (mountF d).1 l).length + (freshN (l.take (i + 1))).length : Nat) : Int) by rw [fresh_take hi (by simpa using c81), List.length_append, List.length_singleton]; congr 1 <;> omega)) (.p rfl rfl (.as rfl) (.nil (.blk (.code (.keep [(11, _), (1, _), (2, _), (6, _), (7, _), (9, _), (12, _)] ⟨rfl, rfl, rfl, rfl, rfl, rfl, rfl, trivial⟩ (.region ?_)))))))
      refine .p rfl rfl (.mv rfl) (.p rfl rfl (.add rfl rfl (by omega)) (.p rfl rfl (.as rfl) (.nil ?_)))
      exact (again (i + 1) (by show i + 1 ≤ _; omega) (by show _ - (i + 1) < _ - i; omega)).of ⟨rfl, rfl, rfl, rfl, rfl, rfl, rfl, trivial⟩
     ·refine .skip (.blk (.code (.keep [(1, _), (2, _), (6, _), (7, _), (9, _), (11, _), (12, _)] ⟨rfl, rfl, rfl, rfl, rfl, rfl, rfl, trivial⟩ (.region ?_))))
      refine .p rfl rfl (.mv rfl) (.p rfl rfl (.add rfl rfl (by omega)) (.p rfl rfl (.as rfl) (.nil ?_)))
      exact (again (i + 1) (by show i + 1 ≤ _; omega) (by show _ - (i + 1) < _ - i; omega)).of ⟨rfl, rfl, rfl, rfl, rfl, by rw [gone_take hi (by simpa using c81)]; rfl, rfl, trivial⟩
    ·obtain rfl : i = l.length := by omega
     have hfr : (freshN (l.take l.length)).length = (freshN l).length := by rw [List.take_length]
     refine .exit rfl (.code (.seq (.seq (.keep [(1, _), (2, _), (6, _), (7, _), (9, _), (11, _)] ⟨rfl, rfl, rfl, rfl, rfl, rfl, trivial⟩ (.region ?_)))))
     refine .p rfl rfl (.mv rfl) (.p rfl rfl (.gt rfl rfl) (.nil (.code (.keep [(85, _), (1, _), (2, _), (6, _), (7, _), (9, _)] ⟨rfl, rfl, rfl, rfl, rfl, rfl, trivial⟩ ?_))))
     refine .condD rfl (fun c85 => ?_) (fun c85 => ?_)
     ·refine .seq (.keep [] trivial (.region ?_))
      refine .p rfl rfl (.as rfl) (.p rfl rfl (.as rfl) (.nil (.code ?_)))
      refine .ret _ rfl ?_
      rw [turnF_42 hm0 hw0 (by omega)]
      exact ⟨_, rfl, Sl.nil, Zw6.trans Zk⟩
     ·have hc32 : ¬ 32 < (keepN (mountF d).1 l).length + (freshN l).length := by omega
      refine .skip (.code (.seq (.keep [(1, _), (2, _), (6, _), (7, _), (9, _)] ⟨rfl, rfl, rfl, rfl, rfl, trivial⟩ (.region ?_))))
      refine .p rfl rfl (.loadA (n := 2) rfl rfl rfl rfl rfl (B6.ext Zk (fun x => x)).cells) (.call (first := []) (captured := []) rfl rfl rfl rfl (refPieces_fn (x := (mountF d).1) (allOf (tDir.ext0 R31 (Y6.trans Zk))) (small_dir hmay)) ?_)
      rintro v87 w87 ⟨O87, X87⟩
      have z87 := X87.size
      have hpl : (allP (mountF d).1.fs).length ≤ 4096 := (check_ok hckr).2.2.1
      obtain ⟨γ, hγ⟩ : ∃ γ : Nat → Nat, γ = fun k => if wk.heap.size ≤ k ∧ k < w87.heap.size then 1 else 0 := ⟨_, rfl⟩
      have D0 : TR w6 γ (allP (mountF d).1.fs) [] (keepN (mountF d).1 l) v87 (.slice none 0 0) (.slice aK (keepN (mountF d).1 l).length kK) w87 := by
       refine ⟨OwnO.mono O87 (fun _ h _ => h) (fun k hk hl => by rw [hγ]; exact if_pos ⟨hk, hl⟩), OwnO.nil, OwnO.rep (OwnO.ext0 (OwnO.mono hO (fun _ h _ => h) (B' := fun k => w6.heap.size ≤ k ∧ k < wk.heap.size) (fun k h hl => ⟨h, hl⟩)) X87) (fun k h _ => by rw [hγ]; exact if_neg (by omega)) (fun k h _ => by have h : k < w6.heap.size := h; rw [hγ]; exact if_neg (by omega)), Zk.trans X87, fun k hk => by rw [hγ]; exact if_neg (by omega)⟩
      clear hγ
      refine .p rfl rfl (.as rfl) (.nil (.code (.seq (.keep [(13, _), (1, _), (2, _), (6, _), (7, _), (9, _)] ⟨rfl, rfl, rfl, rfl, rfl, rfl, trivial⟩ (.region ?_)))))
      refine .p rfl rfl (.as rfl) (.nil (.code (.seq (.seq (.region ?_)))))
      refine .p rfl rfl (.as rfl) (.nil (.code (.block ?_)))
      have hkp := keep_allP (mountF d).1 l
      have hk32 : (keepN (mountF d).1 l).length ≤ 32 := by omega
      refine .loop (S := Nat × (Nat → Nat) × List File × List File × List Piece × List disk.Act × Value × Value × Value × World) (fun s => [(1, .slice al l.length kl), (2, .pointer (some ⟨w.heap.size, 0, none⟩)), (6, .pointer (some ⟨w31.heap.size, 0, none⟩)), (7, i64 ((mountF d).2.1 : Nat)), (9, s.2.2.2.2.2.2.2.2.1), (13, s.2.2.2.2.2.2.1), (14, s.2.2.2.2.2.2.2.1), (15, i64 s.1)]) (fun s => s.2.2.2.2.2.2.2.2.2) (fun s => s.1 ≤ l.length ∧ TR w6 s.2.1 s.2.2.2.2.1 s.2.2.2.2.2.1 s.2.2.2.1 s.2.2.2.2.2.2.1 s.2.2.2.2.2.2.2.1 s.2.2.2.2.2.2.2.2.1 s.2.2.2.2.2.2.2.2.2 ∧ putsF d.count (freshN l) (keepN (mountF d).1 l) [] (allP (mountF d).1.fs) = putsF d.count (freshN (l.drop s.1)) s.2.2.1 s.2.2.2.2.2.1 s.2.2.2.2.1 ∧ (∃ news, s.2.2.1 = (keepN (mountF d).1 l) ++ news ∧ s.2.2.2.1 = news.foldl insF (keepN (mountF d).1 l)) ∧ s.2.2.2.1.length ≤ (keepN (mountF d).1 l).length + s.1 ∧ s.2.2.2.2.1.length ≤ 4096 * (s.1 + 1) ∧ s.2.2.2.2.2.1.length ≤ 4096 * s.1 ∧ s.2.2.1.map (·.name) = (keepN (mountF d).1 l).map (·.name) ++ (freshN (l.take s.1)).map (·.key) ∧ (allP s.2.2.1).length ≤ 4096 * (s.1 + 1)) (fun s => l.length - s.1) (0, γ, (keepN (mountF d).1 l), (keepN (mountF d).1 l), allP (mountF d).1.fs, [], v87, .slice none 0 0, .slice aK (keepN (mountF d).1 l).length kK, w87) ⟨rfl, rfl, rfl, rfl, rfl, rfl, rfl, rfl, trivial⟩ rfl ⟨Nat.zero_le _, D0, rfl, ⟨[], (List.append_nil _).symm, rfl⟩, Nat.le_refl _, by show (allP (mountF d).1.fs).length ≤ 4096 * (0 + 1); omega, Nat.zero_le _, (List.append_nil _).symm, by show (allP (keepN (mountF d).1 l)).length ≤ 4096 * (0 + 1); omega⟩ ?_
      rintro ⟨i, γi, fs, fl, us, zs, vU, vA, vF, wi⟩ J ⟨hi', Di, hP, hnw, hfll, hul, hzl, hnm, hpl2⟩ again
      simp only at hi' Di hP hnw hfll hul hzl hnm hpl2
      have zi := Di.ext.size
      change G _ [(1, .slice al l.length kl), (2, .pointer (some ⟨w.heap.size, 0, none⟩)), (6, .pointer (some ⟨w31.heap.size, 0, none⟩)), (7, i64 ((mountF d).2.1 : Nat)), (9, vF), (13, vU), (14, vA), (15, i64 i)] _ _ wi
      refine .seq (.seq (.region ?_))
      refine .p rfl rfl (.mv rfl) (.p rfl rfl (.mv rfl) (.p rfl rfl (.len rfl rfl) (.p rfl rfl (.lt rfl rfl) (.nil (.code (.keep [(91, _), (1, _), (2, _), (6, _), (7, _), (9, _), (13, _), (14, _), (15, _)] ⟨rfl, rfl, rfl, rfl, rfl, rfl, rfl, rfl, rfl, trivial⟩ ?_))))))
      refine .condD rfl (fun c91 => ?_) (fun c91 => ?_)
      ·have hi : i < l.length := by omega
       obtain ⟨bc, oc, qc, uec, ec, _, hcc, hrc⟩ := Sl.at hl (List.getElem?_eq_getElem hi)
       obtain ⟨rfl, hkey, hval⟩ := tree.tChange.val hrc
       simp only [Value.slice.injEq] at ec
       obtain ⟨rfl, -, -⟩ := ec
       simp only [Lim] at hkey hval
       refine .skip (.code (.seq (.block (.seq (.seq (.keep [(1, _), (2, _), (6, _), (7, _), (9, _), (13, _), (14, _), (15, _)] ⟨rfl, rfl, rfl, rfl, rfl, rfl, rfl, rfl, trivial⟩ (.region ?_)))))))
       refine .p rfl rfl (.mv rfl) (.p rfl rfl (.mv rfl) (.p rfl rfl (.indexAddr (s := 3) rfl rfl rfl rfl (by omega)) (.p rfl rfl (.fieldAddr rfl rfl rfl rfl) (.p rfl rfl (.load rfl rfl rfl (hcc.ext (S := fun _ => False) (Zw6.trans Di.ext) (fun x => x) 2 _ rfl)) (.nil (.code (.keep [(98, _), (1, _), (2, _), (6, _), (7, _), (9, _), (13, _), (14, _), (15, _)] ⟨rfl, rfl, rfl, rfl, rfl, rfl, rfl, rfl, rfl, trivial⟩ ?_)))))))
       refine .cond rfl (fun c98 => ?_) (fun c98 => ?_)
       ·refine .exit rfl (.code (.keep [(1, _), (2, _), (6, _), (7, _), (9, _), (13, _), (14, _), (15, _)] ⟨rfl, rfl, rfl, rfl, rfl, rfl, rfl, rfl, trivial⟩ (.region ?_)))
        refine .p rfl rfl (.mv rfl) (.p rfl rfl (.add rfl rfl (by omega)) (.p rfl rfl (.as rfl) (.nil ?_)))
        exact (again (i + 1, γi, fs, fl, us, zs, vU, vA, vF, wi) ⟨by show i + 1 ≤ _; omega, Di, by show _ = putsF d.count (freshN (l.drop (i + 1))) fs zs us; rw [← gone_drop hi c98]; exact hP, hnw, by show fl.length ≤ _ + (i + 1); omega, by show us.length ≤ 4096 * (i + 1 + 1); omega, by show zs.length ≤ 4096 * (i + 1); omega, by show fs.map File.name = _ ++ (freshN (l.take (i + 1))).map tree.Change.key; rw [gone_take hi c98]; exact hnm, by show (allP fs).length ≤ 4096 * (i + 1 + 1); omega⟩ (by show _ - (i + 1) < _ - i; omega)).of ⟨rfl, rfl, rfl, rfl, rfl, rfl, rfl, rfl, trivial⟩
       ·have hgo : l[i].gone = false := c98
        have hPc := hP
        rw [fresh_drop hi hgo] at hPc
        refine .skip (.code (.seq (.keep [(1, _), (2, _), (6, _), (7, _), (9, _), (13, _), (14, _), (15, _)] ⟨rfl, rfl, rfl, rfl, rfl, rfl, rfl, rfl, trivial⟩ (.region ?_))))
        refine .p rfl rfl (.mv rfl) (.p rfl rfl (.mv rfl) (.p rfl rfl (.indexAddr (s := 3) rfl rfl rfl rfl (by omega)) (.p rfl rfl (.fieldAddr rfl rfl rfl rfl) (.p rfl rfl (.load rfl rfl rfl (hcc.ext (S := fun _ => False) (Zw6.trans Di.ext) (fun x => x) 1 _ rfl)) (.p rfl rfl (.as rfl) (.nil (.code (.seq (.keep [(16, _), (1, _), (2, _), (6, _), (7, _), (9, _), (13, _), (14, _), (15, _)] ⟨rfl, rfl, rfl, rfl, rfl, rfl, rfl, rfl, rfl, trivial⟩ (.region ?_))))))))))
        refine .p rfl rfl (.mv rfl) (.p rfl rfl (.lenS rfl rfl) (.call (first := []) (captured := []) rfl rfl rfl rfl (refNeeds_fn (n := (l[i].value.length : Nat)) (by omega)) ?_))
        rintro _ w106 ⟨rfl, X106⟩
        have z106 := X106.size
        have D1 := Di.quiet X106
        generalize col γi wi.heap.size 0 = γ1 at D1
        refine .p rfl rfl (.as rfl) (.nil (.code (.seq (.seq (.keep [(17, _), (16, _), (1, _), (2, _), (6, _), (7, _), (9, _), (13, _), (14, _), (15, _)] ⟨rfl, rfl, rfl, rfl, rfl, rfl, rfl, rfl, rfl, rfl, trivial⟩ (.region ?_))))))
        refine .p rfl rfl (.mv rfl) (.p rfl rfl (.gt rfl rfl) (.nil (.code (.keep [(108, _), (17, _), (16, _), (1, _), (2, _), (6, _), (7, _), (9, _), (13, _), (14, _), (15, _)] ⟨rfl, rfl, rfl, rfl, rfl, rfl, rfl, rfl, rfl, rfl, rfl, trivial⟩ ?_))))
        refine .condD rfl (fun c108 => ?_) (fun c108 => ?_)
        ·refine .seq (.keep [] trivial (.region ?_))
         refine .p rfl rfl (.as rfl) (.p rfl rfl (.as rfl) (.nil (.code ?_)))
         refine .ret _ rfl ?_
         rw [turnF_p hm0 hw0 hc32 (pr_30 hPc c108) (by decide)]
         exact ⟨_, rfl, Sl.nil, Zw6.trans D1.ext⟩
        ·refine .skip (.code (.seq (.keep [(17, _), (16, _), (1, _), (2, _), (6, _), (7, _), (9, _), (13, _), (14, _), (15, _)] ⟨rfl, rfl, rfl, rfl, rfl, rfl, rfl, rfl, rfl, rfl, trivial⟩ (.region ?_))))
         refine .p rfl rfl (.fieldAddr rfl rfl rfl rfl) (.p rfl rfl (.load rfl rfl rfl ((B26.ext D1.ext (fun x => x)).cell 0)) (.p rfl rfl (.mv rfl) (.p rfl rfl (.mv rfl) (.call (first := []) (captured := []) rfl rfl rfl rfl (RefTake_fn (first := 80) (count := d.count) (many := needF (l[i].value.length : Nat)) (l := us) (OwnO.rep D1.o1 (R := All) (fun _ _ _ => trivial) (fun _ h _ => h.elim))) ?_))))
         rintro _ w114 ⟨v114, rfl, O114, X114⟩
         have z114 := X114.size
         obtain ⟨p, hp⟩ : ∃ p, p = takeL 80 d.count us (needF (l[i].value.length : Nat)) := ⟨_, rfl⟩
         rw [← hp] at O114
         have hpl1 : p.length ≤ 4096 := by rw [hp]; exact takeL_length _ _ _ _
         obtain ⟨ap, kp, rfl, _⟩ := OwnO.val O114
         have D2 := D1.quiet X114
         have hp2 : (Sl tPiece).rep (fun k => col γ1 w106.heap.size 0 k = 0) w114 (.slice ap p.length kp) p := OwnO.rep O114 (fun k hk _ => col_new hk) (fun _ h _ => h.elim)
         generalize col γ1 w106.heap.size 0 = γ2 at D2 hp2
         refine .p rfl rfl (.mv rfl) (.p rfl rfl (.extract rfl rfl) (.p rfl rfl (.extract rfl rfl) (.p rfl rfl (.as rfl) (.p rfl rfl (.as rfl) (.nil (.code (.seq (.seq (.keep [(19, _), (18, _), (16, _), (1, _), (2, _), (6, _), (7, _), (9, _), (13, _), (14, _), (15, _)] ⟨rfl, rfl, rfl, rfl, rfl, rfl, rfl, rfl, rfl, rfl, rfl, trivial⟩ (.region ?_))))))))))
         refine .p rfl rfl (.mv rfl) (.p rfl rfl (.ne rfl rfl) (.nil (.code (.keep [(118, _), (19, _), (18, _), (16, _), (1, _), (2, _), (6, _), (7, _), (9, _), (13, _), (14, _), (15, _)] ⟨rfl, rfl, rfl, rfl, rfl, rfl, rfl, rfl, rfl, rfl, rfl, rfl, trivial⟩ ?_))))
         refine .condD rfl (fun c118 => ?_) (fun c118 => ?_)
         ·refine .seq (.keep [(19, _)] ⟨rfl, trivial⟩ (.region ?_))
          refine .p rfl rfl (.mv rfl) (.p rfl rfl (.as rfl) (.p rfl rfl (.as rfl) (.nil (.code ?_))))
          refine .ret _ rfl ?_
          rw [turnF_p hm0 hw0 hc32 (pr_e hPc c108 c118) c118]
          exact ⟨_, rfl, Sl.nil, Zw6.trans D2.ext⟩
         ·have he0 : takeE 80 d.count us (needF (l[i].value.length : Nat)) = 0 := Decidable.not_not.1 c118
          have hsn := takeL_sects he0
          rw [← hp] at hsn
          unfold needF at hsn
          refine .skip (.code (.seq (.keep [(18, _), (16, _), (1, _), (2, _), (6, _), (7, _), (9, _), (13, _), (14, _), (15, _)] ⟨rfl, rfl, rfl, rfl, rfl, rfl, rfl, rfl, rfl, rfl, trivial⟩ (.region ?_))))
          refine .p rfl rfl (.mv rfl) (.p rfl rfl (.mv rfl) (.v rfl rfl (.appendLo (t := tPiece) (Q := fun _ => False) (xs := us) (ys := p) (B := fun k => col γ2 w114.heap.size 1 k = 1) (eb := 16) rfl (OwnO.mono D2.o1 (fun _ h _ => h) (fun k h hl => by show col _ _ _ _ = _; rw [col_old hl]; exact h)) (fun k hk => col_new hk) rfl (Sl.holds (allOf hp2) (fun _ _ h => h)) rfl rfl rfl rfl rfl rfl rfl (by omega) (by simp only [Lim]; omega) (fun _ h _ => h.elim)) ?_))
          rintro v122 w122 ⟨O122, X122⟩
          have z122 := X122.size
          have D3 := D2.app1 X122 O122
          have hp3 := rep_col hp2 X122 (by decide)
          generalize col γ2 w114.heap.size 1 = γ3 at D3 hp3
          refine .p rfl rfl (.as rfl) (.nil (.code (.seq (.keep [(13, _), (18, _), (16, _), (1, _), (2, _), (6, _), (7, _), (9, _), (14, _), (15, _)] ⟨rfl, rfl, rfl, rfl, rfl, rfl, rfl, rfl, rfl, rfl, trivial⟩ (.region ?_)))))
          refine .p rfl rfl (.mv rfl) (.p rfl rfl (.mv rfl) (.p rfl rfl (.mv rfl) (.p rfl rfl (.indexAddr (s := 3) rfl rfl rfl rfl (by omega)) (.p rfl rfl (.fieldAddr rfl rfl rfl rfl) (.p rfl rfl (.load rfl rfl rfl (hcc.ext (S := fun _ => False) (Zw6.trans D3.ext) (fun x => x) 0 _ rfl)) (.p rfl rfl (.mv rfl) (.p rfl rfl (.lenS rfl rfl) (.p rfl rfl (.mv rfl) (.p rfl rfl (.build (cs := [str l[i].key, i64 (l[i].value.length : Nat), .slice ap p.length kp]) rfl (fun _ => by kernel_rfl)) (.call (first := []) (captured := []) rfl rfl rfl rfl (refIn_fn (P := fun k => γ3 k = 0 ∧ k < w122.heap.size) (l := fl) (f := ⟨l[i].key, (l[i].value.length : Nat), p⟩) ((Sl tFile).mono D3.o3 (fun k h hl => ⟨h, hl⟩)) (tFile.mk (x := ⟨l[i].key, (l[i].value.length : Nat), p⟩) ((Sl tPiece).mono hp3 (fun k h hl => ⟨h, hl⟩)) (by show List.length _ < Lim; simp only [Lim]; omega) (by show _ ≤ ((l[i].value.length : Nat) : Int) ∧ ((l[i].value.length : Nat) : Int) ≤ _; omega)) (fun k h => h.2) (by omega)) ?_))))))))))
          rintro v133 w133 ⟨O133, X133⟩
          have z133 := X133.size
          have D4 := D3.files X133 O133
          have hp4 := rep_col0 (φ := 0) hp3 X133
          generalize col γ3 w122.heap.size 0 = γ4 at D4 hp4
          refine .p rfl rfl (.as rfl) (.nil (.code (.seq (.keep [(9, _), (13, _), (18, _), (16, _), (1, _), (2, _), (6, _), (7, _), (14, _), (15, _)] ⟨rfl, rfl, rfl, rfl, rfl, rfl, rfl, rfl, rfl, rfl, trivial⟩ (.region ?_)))))
          refine .p rfl rfl (.mv rfl) (.call (first := []) (captured := []) rfl rfl rfl rfl (RefSectors_fn (l := p) (allOf hp4)) ?_)
          rintro _ w136 ⟨v136, rfl, O136, X136⟩
          have z136 := X136.size
          have O136 : OwnO tInt (fun _ => False) 3 w136 v136 (sectE p) (fun k => w133.heap.size ≤ k) := by unfold sectE; exact O136
          have hsl := sectE_length p
          obtain ⟨aS, kS, rfl, hkS⟩ := OwnO.val O136
          have D5 := D4.quiet X136
          have hS : (Sl tInt).rep (fun k => col γ4 w133.heap.size 0 k = 0) w136 (.slice aS (sectE p).length kS) (sectE p) := OwnO.rep O136 (fun k hk _ => col_new hk) (fun _ h _ => h.elim)
          generalize col γ4 w133.heap.size 0 = γ5 at D5 hS
          refine .p rfl rfl (.mv rfl) (.p rfl rfl (.extract rfl rfl) (.p rfl rfl (.extract rfl rfl) (.p rfl rfl (.as rfl) (.p rfl rfl (.as rfl) (.nil (.code (.seq (.keep [(20, _), (9, _), (13, _), (16, _), (1, _), (2, _), (6, _), (7, _), (14, _), (15, _)] ⟨rfl, rfl, rfl, rfl, rfl, rfl, rfl, rfl, rfl, rfl, trivial⟩ (.region ?_)))))))))
          refine .p rfl rfl (.as rfl) (.nil (.code (.block ?_)))
          refine .loop (S := Nat × (Nat → Nat) × List disk.Act × Value × World) (fun s => [(1, .slice (some ⟨bc, oc, none⟩) l.length kl), (2, .pointer (some ⟨w.heap.size, 0, none⟩)), (6, .pointer (some ⟨w31.heap.size, 0, none⟩)), (7, i64 ((mountF d).2.1 : Nat)), (9, v133), (13, v122), (14, s.2.2.2.1), (15, i64 (i : Nat)), (16, str l[i].value), (20, .slice aS (sectE p).length kS), (22, i64 s.1)]) (fun s => s.2.2.2.2) (fun s => s.1 ≤ (sectE p).length ∧ TR w6 s.2.1 (us ++ p) s.2.2.1 (insF fl ⟨l[i].key, (l[i].value.length : Nat), p⟩) v122 s.2.2.2.1 v133 s.2.2.2.2 ∧ (Sl tInt).rep (fun k => s.2.1 k = 0) s.2.2.2.2 (.slice aS (sectE p).length kS) (sectE p) ∧ s.2.2.1 = zs ++ (List.range s.1).map (fun j => (⟨false, ⟨(sectE p).getD j 0, secV l[i].value j⟩⟩ : disk.Act))) (fun s => (sectE p).length - s.1) (0, γ5, zs, vA, w136) ⟨rfl, rfl, rfl, rfl, rfl, rfl, rfl, rfl, rfl, rfl, rfl, trivial⟩ rfl ⟨Nat.zero_le _, D5, hS, (List.append_nil _).symm⟩ ?_
          rintro ⟨j, γj, zj, vj, wj⟩ J2 ⟨hj', Dj, hSj, hzj⟩ againj
          simp only at hj' Dj hSj hzj
          have zj0 := Dj.ext.size
          have hzjl : zj.length = zs.length + j := by rw [hzj]; simp
          change G _ [(1, .slice (some ⟨bc, oc, none⟩) l.length kl), (2, .pointer (some ⟨w.heap.size, 0, none⟩)), (6, .pointer (some ⟨w31.heap.size, 0, none⟩)), (7, i64 ((mountF d).2.1 : Nat)), (9, v133), (13, v122), (14, vj), (15, i64 (i : Nat)), (16, str l[i].value), (20, .slice aS (sectE p).length kS), (22, i64 j)] _ _ wj
          refine .seq (.seq (.region ?_))
          refine .p rfl rfl (.mv rfl) (.p rfl rfl (.mv rfl) (.p rfl rfl (.len rfl rfl) (.p rfl rfl (.lt rfl rfl) (.nil (.code (.keep [(142, _), (1, _), (2, _), (6, _), (7, _), (9, _), (13, _), (14, _), (15, _), (16, _), (20, _), (22, _)] ⟨rfl, rfl, rfl, rfl, rfl, rfl, rfl, rfl, rfl, rfl, rfl, rfl, trivial⟩ ?_))))))
          refine .condD rfl (fun c142 => ?_) (fun c142 => ?_)
          ·have hj : j < (sectE p).length := by omega
           obtain ⟨bS, oS, eS, hbS, hci, hri⟩ := Sl.intAt ((Sl tInt).mono hSj (P' := fun k => k < wj.heap.size) (fun k _ hl => hl)) hj
           have hbS : bS < wj.heap.size := hbS
           cases eS
           have hjl : j * 128 < l[i].value.length := by omega
           refine .skip (.code (.seq (.block (.seq (.keep [(1, _), (2, _), (6, _), (7, _), (9, _), (13, _), (14, _), (15, _), (16, _), (20, _), (22, _)] ⟨rfl, rfl, rfl, rfl, rfl, rfl, rfl, rfl, rfl, rfl, rfl, trivial⟩ (.region ?_))))))
           refine .v rfl rfl (.make (eb := 1) rfl rfl rfl rfl rfl rfl rfl rfl (by omega)) ?_
           rintro _ w145 ⟨rfl, N145⟩
           have z145 := N145.size
           refine .p rfl rfl (.as rfl) (.nil (.code (.seq (.seq (.keep [(23, _), (1, _), (2, _), (6, _), (7, _), (9, _), (13, _), (14, _), (15, _), (16, _), (20, _), (22, _)] ⟨rfl, rfl, rfl, rfl, rfl, rfl, rfl, rfl, rfl, rfl, rfl, rfl, trivial⟩ (.region ?_))))))
           refine .p rfl rfl (.as rfl) (.nil (.code (.block ?_)))
           refine .loop (S := Nat × World) (fun s => [(1, .slice (some ⟨bc, oc, none⟩) l.length kl), (2, .pointer (some ⟨w.heap.size, 0, none⟩)), (6, .pointer (some ⟨w31.heap.size, 0, none⟩)), (7, i64 ((mountF d).2.1 : Nat)), (9, v133), (13, v122), (14, vj), (15, i64 (i : Nat)), (16, str l[i].value), (20, .slice (some ⟨bS, oS, none⟩) (sectE p).length kS), (22, i64 (j : Nat)), (23, .slice (some ⟨wj.heap.size, 0, none⟩) 128 128), (24, i64 s.1)]) (fun s => s.2) (fun s => s.1 ≤ 128 ∧ s.1 ≤ (l[i].value.drop (j * 128)).length ∧ Blk s.2 wj.heap.size 5 (((l[i].value.drop (j * 128)).take s.1 ++ List.replicate (128 - s.1) (0 : UInt8)).map u8) ∧ Ext (fun k => k = wj.heap.size) w145 s.2) (fun s => 128 - s.1) (0, w145) ⟨rfl, rfl, rfl, rfl, rfl, rfl, rfl, rfl, rfl, rfl, rfl, rfl, rfl, trivial⟩ rfl ⟨Nat.zero_le _, Nat.zero_le _, by show Blk w145 wj.heap.size 5 (((l[i].value.drop (j * 128)).take 0 ++ List.replicate (128 - 0) (0 : UInt8)).map u8); rw [List.take_zero, List.nil_append, Nat.sub_zero, List.map_replicate]; exact N145.blk, .refl _⟩ ?_
           rintro ⟨n, ws⟩ J3 ⟨hn', hnl, hD, hX8⟩ againn
           simp only at hn' hnl hD hX8
           have zs8 := hX8.size
           rw [List.length_drop] at hnl
           change G _ [(1, .slice (some ⟨bc, oc, none⟩) l.length kl), (2, .pointer (some ⟨w.heap.size, 0, none⟩)), (6, .pointer (some ⟨w31.heap.size, 0, none⟩)), (7, i64 ((mountF d).2.1 : Nat)), (9, v133), (13, v122), (14, vj), (15, i64 (i : Nat)), (16, str l[i].value), (20, .slice (some ⟨bS, oS, none⟩) (sectE p).length kS), (22, i64 (j : Nat)), (23, .slice (some ⟨wj.heap.size, 0, none⟩) 128 128), (24, i64 n)] _ _ ws
           refine .seq (.seq ?_)
           refine .meet (S := Bool) (fun s => [(1, .slice (some ⟨bc, oc, none⟩) l.length kl), (2, .pointer (some ⟨w.heap.size, 0, none⟩)), (6, .pointer (some ⟨w31.heap.size, 0, none⟩)), (7, i64 ((mountF d).2.1 : Nat)), (9, v133), (13, v122), (14, vj), (15, i64 (i : Nat)), (16, str l[i].value), (20, .slice (some ⟨bS, oS, none⟩) (sectE p).length kS), (22, i64 (j : Nat)), (23, .slice (some ⟨wj.heap.size, 0, none⟩) 128 128), (24, i64 (n : Nat)), (156, .bool s)]) (fun s => ws) (fun s => (s = true → n < 128 ∧ j * 128 + n < l[i].value.length) ∧ (s = false → n = 128 ∨ n = (l[i].value.drop (j * 128)).length)) ?_ ?_
           ·rintro t156 ⟨ht156, hf156⟩
            refine .code ?_
            refine .cond rfl (fun c156 => ?_) (fun c156 => ?_)
            ·obtain ⟨hn1, hn2⟩ := ht156 c156
             refine .skip (.code (.seq (.block (.keep [(1, _), (2, _), (6, _), (7, _), (9, _), (13, _), (14, _), (15, _), (16, _), (20, _), (22, _), (23, _), (24, _)] ⟨rfl, rfl, rfl, rfl, rfl, rfl, rfl, rfl, rfl, rfl, rfl, rfl, rfl, trivial⟩ (.region ?_)))))
             refine .p rfl rfl (.mv rfl) (.p rfl rfl (.mv rfl) (.p rfl rfl (.mv rfl) (.p rfl rfl (.mv rfl) (.p rfl rfl (.mul rfl rfl (by omega)) (.p rfl rfl (.mv rfl) (.p rfl rfl (.add rfl rfl (by omega)) (.p rfl rfl (.idxS rfl rfl rfl (by omega) (show l[i].value[((j : Int) * 128 + (n : Int)).toNat]? = some (l[i].value[j * 128 + n]'(by omega)) by rw [show ((j : Int) * 128 + (n : Int)).toNat = j * 128 + n by omega]; exact List.getElem?_eq_getElem _)) ?_)))))))
             refine .p rfl rfl (.indexAddr0 rfl rfl rfl rfl (by omega)) (.s rfl (.store rfl rfl rfl rfl rfl hD (by rw [Int.toNat_natCast]; simp only [List.length_map, List.length_append, List.length_take, List.length_replicate, List.length_drop]; omega)) ?_)
             intro w44 P44
             have z44 := P44.size
             have hD2 := P44.blk
             have hnd : n < (l[i].value.drop (j * 128)).length := by rw [List.length_drop]; omega
             rw [Int.toNat_natCast, show l[i].value[j * 128 + n]'(by omega) = (l[i].value.drop (j * 128))[n] by rw [List.getElem_drop], set_at hnd hn1] at hD2
             refine .nil (.blk (.code (.keep [(1, _), (2, _), (6, _), (7, _), (9, _), (13, _), (14, _), (15, _), (16, _), (20, _), (22, _), (23, _), (24, _)] ⟨rfl, rfl, rfl, rfl, rfl, rfl, rfl, rfl, rfl, rfl, rfl, rfl, rfl, trivial⟩ (.region ?_))))
             refine .p rfl rfl (.mv rfl) (.p rfl rfl (.add rfl rfl (by omega)) (.p rfl rfl (.as rfl) (.nil ?_)))
             exact (againn (n + 1, w44) ⟨by show n + 1 ≤ 128; omega, by show n + 1 ≤ _; rw [List.length_drop]; omega, hD2, hX8.trans P44.ext⟩ (by show 128 - (n + 1) < 128 - n; omega)).of ⟨rfl, rfl, rfl, rfl, rfl, rfl, rfl, rfl, rfl, rfl, rfl, rfl, rfl, trivial⟩
            ·have hex := hf156 c156
             have hnl2 : n ≤ (l[i].value.drop (j * 128)).length := by rw [List.length_drop]; exact hnl
             rw [sec_data hn' hnl2 hex] at hD
             have Zs : Ext (fun _ => False) wj ws := N145.ext.then hX8 (by rintro k rfl _; exact Nat.le_refl _)
             have D7 := Dj.quiet Zs
             have hS7 := rep_col0 (φ := 0) hSj Zs
             have hdat : tBytes.rep (fun k => col γj wj.heap.size 0 k = 0) ws (.slice (some ⟨wj.heap.size, 0, none⟩) 128 128) (secV l[i].value j) := Sl.mkBytes (l := secV l[i].value j) hD.cells (col_new (Nat.le_refl _)) hD.lt (by rw [sec_length]; exact Nat.le_refl _) (by rw [sec_length]; decide) (sec_length _ _).symm
             generalize col γj wj.heap.size 0 = γ7 at D7 hS7 hdat
             refine .exit rfl (.code (.keep [(1, _), (2, _), (6, _), (7, _), (9, _), (13, _), (14, _), (15, _), (16, _), (20, _), (22, _), (23, _)] ⟨rfl, rfl, rfl, rfl, rfl, rfl, rfl, rfl, rfl, rfl, rfl, rfl, trivial⟩ (.region ?_)))
             refine .p rfl rfl (.mv rfl) (.p rfl rfl (.mv rfl) (.p rfl rfl (.mv rfl) (.p rfl rfl (.indexAddr1 rfl rfl rfl rfl (by omega)) (.p rfl rfl (.load rfl rfl rfl (hX8.cell (N145.ext.cell hci (fun x => x)) (by show ¬ bS = wj.heap.size; omega))) ?_))))
             refine .p rfl rfl (.mv rfl) (.p rfl rfl (.build (cs := [i64 (sectE p)[j], .slice (some ⟨wj.heap.size, 0, none⟩) 128 128]) rfl (fun _ => by kernel_rfl)) (.p rfl rfl (.build (cs := [.bool false, i64 (sectE p)[j], .slice (some ⟨wj.heap.size, 0, none⟩) 128 128]) rfl (fun _ => by kernel_rfl)) (.v rfl rfl (.lits rfl rfl (fun _ => by kernel_rfl)) ?_)))
             rintro _ w176 ⟨rfl, N176⟩
             have z176 := N176.size
             have D8 := D7.quiet N176.ext
             have hS8 := rep_col0 (φ := 0) hS7 N176.ext
             have hel : disk.tAct.rep (fun k => col γ7 ws.heap.size 0 k = 0 ∧ k < w176.heap.size) ws (.agg #[.bool false, i64 (sectE p)[j], .slice (some ⟨wj.heap.size, 0, none⟩) 128 128]) ⟨false, ⟨(sectE p)[j], secV l[i].value j⟩⟩ := disk.tAct.mk (a := ⟨false, ⟨(sectE p)[j], secV l[i].value j⟩⟩) (tBytes.mono hdat (fun k h hl => ⟨by rw [col_old hl]; exact h, by omega⟩)) hri
             generalize col γ7 ws.heap.size 0 = γ8 at D8 hS8 hel
             refine .v rfl rfl (.appendLo (t := disk.tAct) (xs := zj) (ys := [⟨false, ⟨(sectE p)[j], secV l[i].value j⟩⟩]) (Q := fun k => γ8 k = 0 ∧ k < w176.heap.size) (B := fun k => col γ8 w176.heap.size 2 k = 2) (eb := 40) rfl (own_pre D8.o2) (fun k hk => col_new hk) rfl (.inr (New.holds (t := disk.tAct) (us := [_]) (xs := [⟨false, ⟨(sectE p)[j], secV l[i].value j⟩⟩]) N176 (.cons hel .nil) rfl)) rfl rfl rfl rfl rfl rfl rfl (by simp; omega) (by simp [Lim]; omega) (fun k hk hl => by show ¬ col _ _ _ _ = _; rw [col_old hl, hk.1]; decide)) ?_
             rintro v177 w177 ⟨O177, X177⟩
             have z177 := X177.size
             have D9 := D8.app2 X177 (own_post O177)
             have hS9 := rep_col hS8 X177 (by decide)
             generalize col γ8 w176.heap.size 2 = γ9 at D9 hS9
             refine .p rfl rfl (.as rfl) (.nil (.blk (.code (.keep [(14, _), (1, _), (2, _), (6, _), (7, _), (9, _), (13, _), (15, _), (16, _), (20, _), (22, _)] ⟨rfl, rfl, rfl, rfl, rfl, rfl, rfl, rfl, rfl, rfl, rfl, trivial⟩ (.region ?_)))))
             refine .p rfl rfl (.mv rfl) (.p rfl rfl (.add rfl rfl (by omega)) (.p rfl rfl (.as rfl) (.nil ?_)))
             exact (againj (j + 1, γ9, zj ++ [⟨false, ⟨(sectE p)[j], secV l[i].value j⟩⟩], v177, w177) ⟨by show j + 1 ≤ _; omega, D9, hS9, by show zj ++ _ = _; rw [acts_step p _ hj, hzj, List.append_assoc]⟩ (by show _ - (j + 1) < _ - j; omega)).of ⟨rfl, rfl, rfl, rfl, rfl, rfl, rfl, rfl, rfl, rfl, rfl, trivial⟩
           ·intro meet
            refine .region (.p rfl rfl (.mv rfl) (.p rfl rfl (.lt rfl rfl) (.p rfl rfl (.mv rfl) ?_)))
            refine .caseD 148 rfl (fun c148 => ?_) (fun c148 => ?_)
            ·refine .p rfl rfl (.mv rfl) (.p rfl rfl (.mul rfl rfl (by omega)) (.p rfl rfl (.mv rfl) (.p rfl rfl (.add rfl rfl (by omega)) (.p rfl rfl (.mv rfl) (.p rfl rfl (.lenS rfl rfl) (.p rfl rfl (.lt rfl rfl) (.p rfl rfl (.pickT rfl rfl) (.nil ?_))))))))
             exact (meet _ ⟨fun h => by have h := of_decide_eq_true h; omega, fun h => by have h := of_decide_eq_false h; rw [List.length_drop]; omega⟩).of ⟨rfl, rfl, rfl, rfl, rfl, rfl, rfl, rfl, rfl, rfl, rfl, rfl, rfl, rfl, trivial⟩
            ·refine .skip rfl rfl (.skip rfl rfl (.skip rfl rfl (.skip rfl rfl (.skip rfl rfl (.skip rfl rfl (.skip rfl rfl (.p rfl rfl (.pickF rfl rfl) (.nil ?_))))))))
             exact (meet false ⟨fun h => (by cases h), fun _ => .inl (by omega)⟩).of ⟨rfl, rfl, rfl, rfl, rfl, rfl, rfl, rfl, rfl, rfl, rfl, rfl, rfl, rfl, trivial⟩
          ·obtain rfl : j = (sectE p).length := by omega
           refine .exit rfl (.blk (.code (.keep [(1, _), (2, _), (6, _), (7, _), (9, _), (13, _), (14, _), (15, _)] ⟨rfl, rfl, rfl, rfl, rfl, rfl, rfl, rfl, trivial⟩ (.region ?_))))
           refine .p rfl rfl (.mv rfl) (.p rfl rfl (.add rfl rfl (by omega)) (.p rfl rfl (.as rfl) (.nil ?_)))
           rw [acts_all] at hzj
           refine (again (i + 1, γj, fs ++ [⟨l[i].key, (l[i].value.length : Nat), p⟩], insF fl ⟨l[i].key, (l[i].value.length : Nat), p⟩, us ++ p, zj, v122, vj, v133, wj) ⟨by show i + 1 ≤ _; omega, Dj, ?_, ?_, ?_, ?_, ?_, ?_, ?_⟩ (by show _ - (i + 1) < _ - i; omega)).of ⟨rfl, rfl, rfl, rfl, rfl, rfl, rfl, rfl, trivial⟩
           ·show _ = putsF d.count (freshN (l.drop (i + 1))) (fs ++ [_]) zj (us ++ p)
            rw [hzj]
            exact pr_s hPc c108 he0 hp
           ·obtain ⟨news, hn1, hn2⟩ := hnw
            exact ⟨news ++ [⟨l[i].key, (l[i].value.length : Nat), p⟩], by show fs ++ _ = _; rw [hn1, List.append_assoc], by show insF fl _ = _; rw [List.foldl_append, ← hn2]; rfl⟩
           ·show (insF fl _).length ≤ _ + (i + 1)
            rw [insF_len]; omega
           ·show (us ++ p).length ≤ 4096 * (i + 1 + 1)
            rw [List.length_append]; omega
           ·show zj.length ≤ 4096 * (i + 1)
            rw [hzj, List.length_append]
            unfold actsV putA putsV
            simp only [List.length_map, List.length_range]
            omega
           ·show (fs ++ [_]).map File.name = _ ++ (freshN (l.take (i + 1))).map tree.Change.key
            rw [List.map_append, hnm, fresh_take hi hgo, List.map_append, List.append_assoc]
            rfl
           ·show (allP (fs ++ [_])).length ≤ 4096 * (i + 1 + 1)
            rw [allP_snoc, List.length_append]
            show (allP fs).length + p.length ≤ _
            omega
      ·obtain rfl : i = l.length := by omega
       have hPz : putsF d.count (freshN l) (keepN (mountF d).1 l) [] (allP (mountF d).1.fs) = (fs, zs, 0) := by rw [hP, List.drop_length]; show putsF d.count [] fs zs us = _; rw [putsF]
       have hdist := names_ne hup hw0 (by rw [hnm, List.take_length])
       obtain ⟨news, hn1, hn2⟩ := hnw
       have hfs : fl = sortN fs := by rw [hn2, hn1]; exact sortN_fold (hup.sublist List.filter_sublist) (by rw [← hn1]; exact hdist)
       subst hfs
       obtain ⟨aF, kF, rfl, hkF⟩ := Sl.val Di.o3
       obtain ⟨aA, kA, rfl, hkA⟩ := OwnO.val Di.o2
       refine .exit rfl (.code (.seq (.keep [(2, _), (6, _), (7, _), (9, _), (14, _)] ⟨rfl, rfl, rfl, rfl, rfl, trivial⟩ (.region ?_))))
       refine .p rfl rfl (.mv rfl) (.p rfl rfl (.cast (.sub rfl rfl (by omega)) (show _ = i64 (((8 - (mountF d).2.1) : Nat) : Int) by congr 1; omega)) (.p rfl rfl (.as rfl) (.nil (.code (.seq (.keep [(25, _), (2, _), (6, _), (9, _), (14, _)] ⟨rfl, rfl, rfl, rfl, rfl, trivial⟩ (.region ?_)))))))
       refine .p rfl rfl (.loadA (n := 3) rfl rfl rfl rfl rfl (B26.ext Di.ext (fun x => x)).cells) (.p rfl rfl (.fieldAddr rfl rfl rfl rfl) (.p rfl rfl (.load rfl rfl rfl ((B6.ext Di.ext (fun x => x)).cell 0)) (.p rfl rfl (.mv rfl) (.call (first := []) (captured := []) rfl rfl rfl rfl (refNewest_fn (o := 8 - (mountF d).2.1) (g := (mountF d).1.gen) (disk.tDisk.ext0 h0 (Zw6.trans Di.ext)) hck (by omega) ⟨by have := hmay.1.1; omega, hmay.1.2⟩) ?_))))
       rintro _ w184 ⟨rfl, X184⟩
       have z184 := X184.size
       have D10 := Di.quiet X184
       generalize col γi wi.heap.size 0 = γ10 at D10
       have hgb := genTo_bd d (8 - (mountF d).2.1) (mountF d).1.gen hmay.1.2 8
       have hgl := genTo_le d (8 - (mountF d).2.1) (mountF d).1.gen 8
       have hTD : turnD d (mountF d).1 (mountF d).2.1 fs = ⟨genTo d (8 - (mountF d).2.1) (mountF d).1.gen 8 + 1, sortN fs⟩ := by unfold turnD genN; rfl
       generalize genTo d (8 - (mountF d).2.1) (mountF d).1.gen 8 = gE at *
       have hg1 := hmay.1.1
       refine .p rfl rfl (.as rfl) (.nil (.code (.seq (.seq (.keep [(26, _), (25, _), (9, _), (14, _)] ⟨rfl, rfl, rfl, rfl, trivial⟩ (.region ?_))))))
       refine .p rfl rfl (.mv rfl) (.p rfl rfl (.ge rfl rfl) (.nil (.code (.keep [(186, _), (26, _), (25, _), (9, _), (14, _)] ⟨rfl, rfl, rfl, rfl, rfl, trivial⟩ ?_))))
       refine .condD rfl (fun c186 => ?_) (fun c186 => ?_)
       ·refine .seq (.keep [] trivial (.region ?_))
        refine .p rfl rfl (.as rfl) (.p rfl rfl (.as rfl) (.nil (.code ?_)))
        refine .ret _ rfl ?_
        rw [turnF_n hm0 hw0 hc32 hPz (by rw [hTD]; exact writeF_big c186)]
        exact ⟨_, rfl, Sl.nil, Zw6.trans D10.ext⟩
       ·have hg62 : gE + 1 < 4611686018427387904 := by omega
        refine .skip (.code (.seq (.keep [(26, _), (25, _), (9, _), (14, _)] ⟨rfl, rfl, rfl, rfl, trivial⟩ (.region ?_))))
        refine .p rfl rfl (.mv rfl) (.p rfl rfl (.mv rfl) (.p rfl rfl (.build (cs := [i64 (gE + 1), .slice aF (sortN fs).length kF]) rfl (fun _ => by kernel_rfl)) (.call (first := []) (captured := []) rfl rfl rfl rfl (RefWriteD_fn (x := (⟨gE + 1, sortN fs⟩ : Dir)) (tDir.mk (x := (⟨gE + 1, sortN fs⟩ : Dir)) (allOf D10.o3) (by show _ ≤ gE + 1 ∧ gE + 1 ≤ _; omega)) (by show (allP (sortN fs)).length ≤ _; rw [allP_sort]; omega)) ?_)))
        rintro _ w191 ⟨v191, rfl, G191, X191⟩
        have z191 := X191.size
        obtain ⟨b, hbd⟩ : ∃ b, b = (writeF (⟨gE + 1, sortN fs⟩ : Dir)).1 := ⟨_, rfl⟩
        rw [← hbd] at G191
        have hb : tBytes.rep (fun k => col γ10 w184.heap.size 0 k = 0) w191 v191 b := OwnO.rep G191 (fun k hk hl => col_new hk) (fun _ h _ => h.elim)
        have D11 := D10.quiet X191
        generalize col γ10 w184.heap.size 0 = γ11 at D11 hb
        obtain ⟨ab, kb, rfl, hkb⟩ := Sl.val hb
        refine .p rfl rfl (.mv rfl) (.p rfl rfl (.extract rfl rfl) (.p rfl rfl (.extract rfl rfl) (.p rfl rfl (.as rfl) (.p rfl rfl (.as rfl) (.nil (.code (.seq (.seq (.keep [(8, _), (27, _), (25, _), (14, _)] ⟨rfl, rfl, rfl, rfl, trivial⟩ (.region ?_))))))))))
        refine .p rfl rfl (.mv rfl) (.p rfl rfl (.ne rfl rfl) (.nil (.code (.keep [(195, _), (27, _), (25, _), (14, _)] ⟨rfl, rfl, rfl, rfl, trivial⟩ ?_))))
        refine .condD rfl (fun c195 => ?_) (fun c195 => ?_)
        ·refine .seq (.keep [] trivial (.region ?_))
         refine .p rfl rfl (.as rfl) (.p rfl rfl (.as rfl) (.nil (.code ?_)))
         refine .ret _ rfl ?_
         rw [turnF_n hm0 hw0 hc32 hPz (by rw [hTD]; exact c195)]
         exact ⟨_, rfl, Sl.nil, Zw6.trans D11.ext⟩
        ·have hwr : (writeF (⟨gE + 1, sortN fs⟩ : Dir)).2 = 0 := Decidable.not_not.1 c195
         have hbl : b.length = 1024 := writeF_len (Prod.ext hbd.symm hwr)
         refine .skip (.code (.seq (.seq (.keep [(27, _), (25, _), (14, _)] ⟨rfl, rfl, rfl, trivial⟩ (.region ?_)))))
         refine .p rfl rfl (.mv rfl) (.p rfl rfl (.len rfl rfl) (.p rfl rfl (.gt rfl rfl) (.nil (.code (.keep [(198, _), (27, _), (25, _), (14, _)] ⟨rfl, rfl, rfl, rfl, trivial⟩ ?_)))))
         refine .meet (S := (Nat → Nat) × Value × World) (fun s => [(14, s.2.1), (25, i64 ((8 - (mountF d).2.1 : Nat) : Int)), (27, .slice ab b.length kb)]) (fun s => s.2.2) (fun s => TR w6 s.1 us (zs ++ (if zs = [] then [] else [flushA])) (sortN fs) vU s.2.1 (.slice aF (sortN fs).length kF) s.2.2 ∧ tBytes.rep (fun k => s.1 k = 0) s.2.2 (.slice ab b.length kb) b) ?_ ?_
         ·rintro ⟨γm, vm, wm⟩ ⟨Dm, hbm⟩
          simp only at Dm hbm
          change A _ [(14, vm), (25, i64 ((8 - (mountF d).2.1 : Nat) : Int)), (27, .slice ab b.length kb)] _ wm
          refine .code (.seq (.seq (.region ?_)))
          refine .p rfl rfl (.as rfl) (.nil (.code (.block ?_)))
          refine .loop (S := Nat × (Nat → Nat) × List disk.Act × Value × World) (fun s => [(14, s.2.2.2.1), (25, i64 ((8 - (mountF d).2.1 : Nat) : Int)), (27, .slice ab b.length kb), (28, i64 s.1)]) (fun s => s.2.2.2.2) (fun s => s.1 ≤ 8 ∧ TR w6 s.2.1 us s.2.2.1 (sortN fs) vU s.2.2.2.1 (.slice aF (sortN fs).length kF) s.2.2.2.2 ∧ tBytes.rep (fun k => s.2.1 k = 0) s.2.2.2.2 (.slice ab b.length kb) b ∧ s.2.2.1 = (zs ++ (if zs = [] then [] else [flushA])) ++ (List.range s.1).map (fun i => (⟨false, ⟨((8 - (mountF d).2.1 + i : Nat) : Int), (b.drop (i * 128)).take 128⟩⟩ : disk.Act))) (fun s => 8 - s.1) (0, γm, (zs ++ (if zs = [] then [] else [flushA])), vm, wm) ⟨rfl, rfl, rfl, rfl, trivial⟩ rfl ⟨Nat.zero_le _, Dm, hbm, (List.append_nil _).symm⟩ ?_
          rintro ⟨i, γh, zh, vh, wh⟩ J ⟨hi', Dh, hb, hzh⟩ again
          simp only at hi' Dh hb hzh
          have zh0 := Dh.ext.size
          have hzhl : zh.length ≤ zs.length + 9 := by rw [hzh]; simp only [List.length_append, List.length_map, List.length_range]; split <;> simp <;> omega
          change G _ [(14, vh), (25, i64 ((8 - (mountF d).2.1 : Nat) : Int)), (27, .slice ab b.length kb), (28, i64 i)] _ _ wh
          refine .seq (.seq (.region ?_))
          refine .p rfl rfl (.mv rfl) (.p rfl rfl (.lt rfl rfl) (.nil (.code (.keep [(204, _), (14, _), (25, _), (27, _), (28, _)] ⟨rfl, rfl, rfl, rfl, rfl, trivial⟩ ?_))))
          refine .condD rfl (fun c204 => ?_) (fun c204 => ?_)
          ·have hi : i < 8 := by omega
           obtain ⟨a217, c217, hv217, hc217, R217⟩ := Sl.cutE hb (i * 128) (i * 128 + 128) (by omega) (by omega)
           rw [show (b.take (i * 128 + 128)).drop (i * 128) = (b.drop (i * 128)).take 128 by rw [List.drop_take]; congr 1; omega] at R217
           refine .skip (.code (.seq (.block (.keep [(14, _), (25, _), (27, _), (28, _)] ⟨rfl, rfl, rfl, rfl, trivial⟩ (.region ?_)))))
           refine .p rfl rfl (.mv rfl) (.p rfl rfl (.mv rfl) (.p rfl rfl (.mv rfl) (.p rfl rfl (.cast (.add rfl rfl (by omega)) (show _ = i64 ((8 - (mountF d).2.1 + i : Nat) : Int) by congr 1)) (.p rfl rfl (.mv rfl) (.p rfl rfl (.mv rfl) (.p rfl rfl (.mul rfl rfl (by omega)) (.p rfl rfl (.mv rfl) (.p rfl rfl (.mul rfl rfl (by omega)) (.p rfl rfl (.add rfl rfl (by omega)) (.p rfl rfl (.cast (.cut (s := 1) rfl rfl rfl rfl rfl (by omega)) (show cutV 1 ab kb ((i : Int) * 128).toNat ((i : Int) * 128 + 128).toNat = .slice a217 (i * 128 + 128 - i * 128) c217 by rw [show ((i : Int) * 128).toNat = i * 128 by omega, show ((i : Int) * 128 + 128).toNat = i * 128 + 128 by omega]; exact hv217)) (.p rfl rfl (.build (cs := [i64 ((8 - (mountF d).2.1 + i : Nat) : Int), .slice a217 (i * 128 + 128 - i * 128) c217]) rfl (fun _ => by kernel_rfl)) (.p rfl rfl (.build (cs := [.bool false, i64 ((8 - (mountF d).2.1 + i : Nat) : Int), .slice a217 (i * 128 + 128 - i * 128) c217]) rfl (fun _ => by kernel_rfl)) (.v rfl rfl (.lits rfl rfl (fun _ => by kernel_rfl)) ?_)))))))))))))
           rintro _ w220 ⟨rfl, N220⟩
           have z220 := N220.size
           have D2 := Dh.quiet N220.ext
           have hb2 := rep_col0 (φ := 0) hb N220.ext
           have hel : disk.tAct.rep (fun k => col γh wh.heap.size 0 k = 0 ∧ k < w220.heap.size) wh (.agg #[.bool false, i64 ((8 - (mountF d).2.1 + i : Nat) : Int), .slice a217 (i * 128 + 128 - i * 128) c217]) ⟨false, ⟨((8 - (mountF d).2.1 + i : Nat) : Int), (b.drop (i * 128)).take 128⟩⟩ := disk.tAct.mk (a := ⟨false, ⟨((8 - (mountF d).2.1 + i : Nat) : Int), (b.drop (i * 128)).take 128⟩⟩) (tBytes.mono R217 (fun k h hl => ⟨by rw [col_old hl]; exact h, by omega⟩)) ⟨by show _ ≤ ((8 - (mountF d).2.1 + i : Nat) : Int); omega, by show ((8 - (mountF d).2.1 + i : Nat) : Int) ≤ _; omega⟩
           generalize col γh wh.heap.size 0 = γ2 at D2 hb2 hel
           refine .v rfl rfl (.appendLo (t := disk.tAct) (xs := zh) (ys := [⟨false, ⟨((8 - (mountF d).2.1 + i : Nat) : Int), (b.drop (i * 128)).take 128⟩⟩]) (Q := fun k => γ2 k = 0 ∧ k < w220.heap.size) (B := fun k => col γ2 w220.heap.size 2 k = 2) (eb := 40) rfl (own_pre D2.o2) (fun k hk => col_new hk) rfl (.inr (New.holds (t := disk.tAct) (us := [_]) (xs := [⟨false, ⟨((8 - (mountF d).2.1 + i : Nat) : Int), (b.drop (i * 128)).take 128⟩⟩]) N220 (.cons hel .nil) rfl)) rfl rfl rfl rfl rfl rfl rfl (by simp; omega) (by simp [Lim]; omega) (fun k hk hl => by show ¬ col _ _ _ _ = _; rw [col_old hl, hk.1]; decide)) ?_
           rintro v221 w221 ⟨O221, X221⟩
           have z221 := X221.size
           have D3 := D2.app2 X221 (own_post O221)
           have hb3 := rep_col hb2 X221 (by decide)
           generalize col γ2 w220.heap.size 2 = γ3 at D3 hb3
           refine .p rfl rfl (.as rfl) (.nil (.blk (.code (.keep [(14, _), (25, _), (27, _), (28, _)] ⟨rfl, rfl, rfl, rfl, trivial⟩ (.region ?_)))))
           refine .p rfl rfl (.mv rfl) (.p rfl rfl (.add rfl rfl (by omega)) (.p rfl rfl (.as rfl) (.nil ?_)))
           exact (again (i + 1, γ3, zh ++ [⟨false, ⟨((8 - (mountF d).2.1 + i : Nat) : Int), (b.drop (i * 128)).take 128⟩⟩], v221, w221) ⟨by show i + 1 ≤ 8; omega, D3, hb3, by show zh ++ _ = _; rw [dir_step, hzh, List.append_assoc]⟩ (by show 8 - (i + 1) < 8 - i; omega)).of ⟨rfl, rfl, rfl, rfl, trivial⟩
          ·obtain rfl : i = 8 := by omega
           rw [dir_all] at hzh
           refine .exit rfl (.code (.seq (.keep [(14, _)] ⟨rfl, trivial⟩ (.region ?_))))
           refine .p rfl rfl (.mv rfl) (.p rfl rfl (.build (cs := [.bool true, i64 0, .slice none 0 0]) rfl (fun _ => by kernel_rfl)) (.v rfl rfl (.lits rfl rfl (fun _ => by kernel_rfl)) ?_))
           rintro _ w224 ⟨rfl, N224⟩
           have z224 := N224.size
           have D2 := Dh.quiet N224.ext
           generalize col γh wh.heap.size 0 = γ2 at D2
           refine .v rfl rfl (.appendLo (t := disk.tAct) (xs := zh) (ys := [flushA]) (Q := fun k => γ2 k = 0 ∧ k < w224.heap.size) (B := fun k => col γ2 w224.heap.size 2 k = 2) (eb := 40) rfl (own_pre D2.o2) (fun k hk => col_new hk) rfl (.inr (New.holds (t := disk.tAct) (us := [_]) (xs := [flushA]) N224 (.cons (disk.tAct.mk (a := flushA) Sl.nil (by decide)) .nil) rfl)) rfl rfl rfl rfl rfl rfl rfl (by simp; omega) (by simp [Lim]; omega) (fun k hk hl => by show ¬ col _ _ _ _ = _; rw [col_old hl, hk.1]; decide)) ?_
           rintro v225 w225 ⟨O225, X225⟩
           have z225 := X225.size
           have D3 := D2.app2 X225 (own_post O225)
           generalize col γ2 w224.heap.size 2 = γ3 at D3
           refine .p rfl rfl (.as rfl) (.p rfl rfl (.as rfl) (.nil (.code ?_)))
           refine .ret _ rfl ?_
           rw [turnF_0 hm0 hw0 hc32 hPz (by rw [hTD]; exact hwr), hTD, ← hbd]
           refine ⟨_, rfl, ?_, Zw6.trans D3.ext⟩
           have := OwnO.rep (R := All) D3.o2 (fun _ _ _ => trivial) (fun _ _ _ => trivial)
           rw [hzh] at this
           exact this
         ·intro meet
          refine .condD rfl (fun c198 => ?_) (fun c198 => ?_)
          ·refine .keep [(27, _), (25, _), (14, _)] ⟨rfl, rfl, rfl, trivial⟩ (.region ?_)
           refine .p rfl rfl (.mv rfl) (.p rfl rfl (.build (cs := [.bool true, i64 0, .slice none 0 0]) rfl (fun _ => by kernel_rfl)) (.v rfl rfl (.lits rfl rfl (fun _ => by kernel_rfl)) ?_))
           rintro _ w201 ⟨rfl, N201⟩
           have z201 := N201.size
           have D12 := D11.quiet N201.ext
           have hb12 := rep_col0 (φ := 0) hb N201.ext
           generalize col γ11 w191.heap.size 0 = γ12 at D12 hb12
           refine .v rfl rfl (.appendLo (t := disk.tAct) (xs := zs) (ys := [flushA]) (Q := fun k => γ12 k = 0 ∧ k < w201.heap.size) (B := fun k => col γ12 w201.heap.size 2 k = 2) (eb := 40) rfl (own_pre D12.o2) (fun k hk => col_new hk) rfl (.inr (New.holds (t := disk.tAct) (us := [_]) (xs := [flushA]) N201 (.cons (disk.tAct.mk (a := flushA) Sl.nil (by decide)) .nil) rfl)) rfl rfl rfl rfl rfl rfl rfl (by simp; omega) (by simp [Lim]; omega) (fun k hk hl => by show ¬ col _ _ _ _ = _; rw [col_old hl, hk.1]; decide)) ?_
           rintro v202 w202 ⟨O202, X202⟩
           have z202 := X202.size
           have D13 := D12.app2 X202 (own_post O202)
           have hb13 := rep_col hb12 X202 (by decide)
           generalize col γ12 w201.heap.size 2 = γ13 at D13 hb13
           refine .p rfl rfl (.as rfl) (.nil ?_)
           exact (meet (γ13, v202, w202) ⟨by rw [if_neg (by intro h; rw [h] at c198; exact absurd c198 (by decide))]; exact D13, hb13⟩).of ⟨rfl, rfl, rfl, trivial⟩
          ·refine .skip ?_
           have hz0 : zs = [] := List.length_eq_zero_iff.1 (by omega)
           exact (meet (γ11, .slice aA zs.length kA, w191) ⟨by rw [if_pos hz0, List.append_nil]; exact D11, hb⟩).of ⟨rfl, rfl, rfl, trivial⟩
end Go.Proofs.YtpfehnopghffjaaGreatDoor
