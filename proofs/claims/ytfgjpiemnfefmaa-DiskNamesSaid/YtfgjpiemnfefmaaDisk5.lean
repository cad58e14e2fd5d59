/-
  Package disk: a loss of power; a write; all made sure; two disks compared.
-/
import Derived.Test.YtfgjpiemnfefmaaDisk4
set_option linter.unusedVariables false
set_option linter.unusedSimpArgs false
set_option maxRecDepth 20000
namespace Go.Proofs.Ytfgjpiemnfefmaa
open Go disk
namespace disk
theorem check_no {d : Disk} (h : ¬ checkF d = 0) : checkF d = 20 := by
  unfold checkF at h ⊢
  split
  · rfl
  · rename_i c1
    rw [if_neg c1] at h
    split
    · rename_i c2; rw [if_pos c2] at h; exact absurd rfl h
    · rfl
theorem tAct.mk {P : Nat → Prop} {w : World} {a : Act} {u : Value} (h : tBytes.rep P w u a.put.data) (h1 : -9223372036854775808 ≤ a.put.sector ∧ a.put.sector ≤ 9223372036854775807) : tAct.rep P w (.agg #[.bool a.flush, i64 a.put.sector, u]) a := by
  refine ⟨.bool a.flush, .agg #[i64 a.put.sector, u], ?_, rfl, tPut.mk h h1⟩
  rfl
theorem act_one {P : Nat → Prop} {w w2 : World} {E : TypeId} {a : Act} {u : Value} (h : tBytes.rep P w u a.put.data) (hu : u.cells = #[u]) (h1 : -9223372036854775808 ≤ a.put.sector ∧ a.put.sector ≤ 9223372036854775807) (N : New w w2 E [.bool a.flush, i64 a.put.sector, u]) : (Sl tAct).rep All w2 (.slice (some ⟨w.heap.size, 0, none⟩) 1 1) [a] :=
  Sl.mk (us := [.agg #[.bool a.flush, i64 a.put.sector, u]]) (.cons (tAct.mk (tBytes.ext0 (allOf h) N.ext) h1) .nil) (by have := N.blk.cells; exact this) trivial N.blk.lt (by simp) (by simp [Lim]) rfl
end disk
theorem Crash_fn {w : World} {v vk : Value} {d : Disk} {ks : List Bool} (h : tDisk.rep All w v d) (hk : (Sl tBool).rep All w vk ks) : Fn Try.prog 16 [v, vk] w (fun r w2 => ∃ v', r = .tuple #[v', i64 (crashF d ks).2] ∧ OwnD w2 v' (crashF d ks).1 (fun k => w.heap.size ≤ k) ∧ Ext (fun _ => False) w w2) := by
  obtain ⟨u, u', rfl, hd, hw, hc1, hc2⟩ := tDisk.val h
  obtain ⟨ak, capk, rfl, hcapk⟩ := Sl.val hk
  have hkR := (Sl tBool).mono hk (P' := fun k => k < w.heap.size) (fun k _ h => h)
  refine Fn.enter (fun w => Try.call16 _ w) Try.func16 rfl ?_
  refine .seq (.region ?_)
  refine .v rfl rfl (.box rfl) ?_
  rintro _ w2 ⟨rfl, N2⟩
  refine .v rfl rfl (.box rfl) ?_
  rintro _ w3 ⟨rfl, N3⟩
  refine .v rfl rfl (.alloc rfl rfl) ?_
  rintro _ w4 ⟨rfl, N4⟩
  have B2 := N2.blk.ext (N3.ext.trans N4.ext) (fun x => x)
  have z2 : w2.heap.size = w.heap.size + 1 := N2.size
  have z3 : w3.heap.size = w2.heap.size + 1 := N3.size
  have z4 : w4.heap.size = w3.heap.size + 1 := N4.size
  refine .p rfl rfl (.as rfl) ?_
  refine .nil (.code (.seq (.seq (.keep [(4, _), (3, _), (2, _)] ⟨rfl, rfl, rfl, trivial⟩ (.region ?_)))))
  refine .p rfl rfl (.loadA (n := 3) rfl rfl rfl rfl rfl B2.cells) ?_
  refine .call (first := []) (captured := []) rfl rfl rfl rfl (Check_fn (tDisk.ext0 h (N2.ext.trans (N3.ext.trans N4.ext)))) ?_
  rintro _ w12 ⟨rfl, X12⟩
  have hE := N4.blk.ext X12 (fun x => x)
  have z12 : w4.heap.size ≤ w12.heap.size := X12.size
  refine .p rfl rfl (.as rfl) ?_
  refine .nil (.code (.seq (.keep [(6, _), (4, _), (3, _), (2, _)] ⟨rfl, rfl, rfl, rfl, trivial⟩ (.region ?_))))
  refine .p rfl rfl (.mv rfl) ?_
  refine .p rfl rfl (.ne rfl rfl) ?_
  refine .nil (.code (.keep [(11, _), (6, _), (4, _), (3, _), (2, _)] ⟨rfl, rfl, rfl, rfl, rfl, trivial⟩ ?_))
  refine .condD rfl (fun c11 => ?_) (fun c11 => ?_)
  · refine .seq (.keep [(6, _), (4, _)] ⟨rfl, rfl, trivial⟩ (.region ?_))
    refine .p rfl rfl (.build (cs := [i64 0, .slice none 0 0, .slice none 0 0]) rfl (fun _ => by kernel_rfl)) ?_
    refine .p rfl rfl (.mv rfl) ?_
    refine .s rfl (.storeAll (n := 3) rfl rfl rfl rfl rfl hE rfl) ?_
    intro w15 P15
    have z15 : w15.heap.size = w12.heap.size := P15.size
    refine .p rfl rfl (.as rfl) ?_
    refine .nil (.code ?_)
    refine .retR (.cell (n := 3) rfl rfl rfl rfl rfl (P15.blk.cells) (.tmp rfl .nil)) ?_
    have e : crashF d ks = (nodisk, checkF d) := by unfold crashF; rw [if_pos c11]
    rw [e]
    exact ⟨_, rfl, OwnD.none (b1 := w.heap.size) (b2 := w2.heap.size) (by omega) (by omega) (by omega) (Nat.le_refl _) (by show w.heap.size ≤ w2.heap.size; omega), (N2.ext.trans (N3.ext.trans (N4.ext.trans X12))).then P15.ext (by rintro k rfl _; show w.heap.size ≤ w3.heap.size; omega)⟩
  · have hok : checkF d = 0 := Decidable.byContradiction c11
    obtain ⟨k1, k2, k3, k4, k5⟩ := check_ok hok
    refine .skip (.code (.seq (.keep [(4, _), (3, _), (2, _)] ⟨rfl, rfl, rfl, trivial⟩ (.region ?_))))
    refine .p rfl rfl (.loadA (n := 3) rfl rfl rfl rfl rfl (B2.ext X12 (fun x => x)).cells) ?_
    refine .call (first := []) (captured := []) rfl rfl rfl rfl (twin_fn (tDisk.ext0 h (N2.ext.trans (N3.ext.trans (N4.ext.trans X12)))) (by omega)) ?_
    rintro r18 w18 ⟨D18, X18⟩
    have z18 : w12.heap.size ≤ w18.heap.size := X18.size
    obtain ⟨a1, c1, a2, c2, rfl⟩ := D18.val
    refine .v rfl rfl (.alloc rfl rfl) ?_
    rintro _ w7 ⟨rfl, N7⟩
    have z7 : w7.heap.size = w18.heap.size + 1 := N7.size
    refine .s rfl (.storeAll (n := 3) rfl rfl rfl rfl rfl N7.blk rfl) ?_
    intro w19 P19
    have z19 : w19.heap.size = w7.heap.size := P19.size
    have X19 := N7.ext.then P19.ext (by rintro k rfl _; exact Nat.le_refl _)
    have D19 := (D18.mono (P' := fun k => w12.heap.size ≤ k ∧ k ≠ w18.heap.size) (fun k h1 h2 => ⟨h1, Nat.ne_of_lt h2⟩)).ext0 X19
    have Z19 := N4.ext.trans (X12.trans (X18.trans X19))
    have B3 := N3.blk.ext Z19 (fun x => x)
    have hnP : ∀ k, k < w12.heap.size → ¬ (k = w18.heap.size ∨ (w12.heap.size ≤ k ∧ k ≠ w18.heap.size)) := fun k hk h => by rcases h with h | h <;> omega
    refine .nil (.code (.seq (.keep [(7, _), (4, _), (3, _)] ⟨rfl, rfl, rfl, trivial⟩ (.region ?_))))
    refine .p rfl rfl (.makeFunc rfl rfl) ?_
    refine .call (first := []) (captured := []) rfl rfl rfl rfl (settle_fn (f := 40) (cap := [.pointer (some ⟨w2.heap.size, 0, none⟩)]) (keep := fun i => ks.getD i false) P19.blk D19 (fun h => h.2 rfl) hok (fun j w' hj hx => keepAt_fn (by omega) (B3.ext hx (hnP _ (by omega))) (allOf ((Sl tBool).ext ((Sl tBool).ext0 hkR (N2.ext.trans (N3.ext.trans Z19))) hx (fun k hk _ => hnP k (by omega)))))) ?_
    rintro _ w41 ⟨rfl, u3, B41, D41, X41⟩
    obtain ⟨e1, f1, e2, f2, e3⟩ := D41.val
    simp [settleD] at e3
    obtain ⟨rfl, rfl, rfl⟩ := e3
    refine .nil (.code (.seq (.keep [(7, _), (4, _)] ⟨rfl, rfl, trivial⟩ (.region ?_))))
    refine .p rfl rfl (.loadA (n := 3) rfl rfl rfl rfl rfl B41.cells) ?_
    refine .s rfl (.storeAll (n := 3) rfl rfl rfl rfl rfl ((N4.blk.ext (X12.trans (X18.trans X19)) (fun x => x)).ext X41 (hnP _ (by omega))) rfl) ?_
    intro w67 P67
    have z41 : w19.heap.size ≤ w41.heap.size := X41.size
    have z67 : w67.heap.size = w41.heap.size := P67.size
    refine .p rfl rfl (.as rfl) ?_
    refine .nil (.code ?_)
    refine .retR (.cell (n := 3) rfl rfl rfl rfl rfl (P67.blk.cells) (.tmp rfl .nil)) ?_
    have e : crashF d ks = (settleD d (fun i => ks.getD i false), 0) := by unfold crashF; rw [if_neg (by simp [hok])]
    rw [e]
    exact ⟨_, rfl, (D41.ext P67.ext (fun k h _ he => by have h := h.1; have he : k = w3.heap.size := he; omega)).mono (fun k h _ => by have h := h.1; show w.heap.size ≤ k; omega), ((N2.ext.trans (N3.ext.trans Z19)).then X41 (by rintro k (h | h) _ <;> omega)).then P67.ext (by rintro k rfl _; show w.heap.size ≤ w3.heap.size; omega)⟩
theorem Write_fn {w : World} {v vb : Value} {d : Disk} {n : Int} {b : Bs} (h : tDisk.rep All w v d) (hb : tBytes.rep All w vb b) (hn : -9223372036854775808 ≤ n ∧ n ≤ 9223372036854775807) : Fn Try.prog 27 [v, i64 n, vb] w (fun r w2 => ∃ v', r = .tuple #[v', i64 (doF d [⟨false, n, b⟩]).2] ∧ OwnD w2 v' (doF d [⟨false, n, b⟩]).1 (fun k => w.heap.size ≤ k) ∧ Ext (fun _ => False) w w2) := by
  obtain ⟨u, u', rfl, hd, hw, hc1, hc2⟩ := tDisk.val h
  obtain ⟨ab, capb, rfl, hcapb⟩ := Sl.val hb
  refine Fn.enter (fun w => Try.call27 _ w) Try.func27 rfl ?_
  refine .seq (.region ?_)
  refine .v rfl rfl (.box rfl) ?_
  rintro _ w3 ⟨rfl, N3⟩
  refine .v rfl rfl (.alloc rfl rfl) ?_
  rintro _ w6 ⟨rfl, N6⟩
  have B2 := N3.blk.ext N6.ext (fun x => x)
  have z2 : w3.heap.size = w.heap.size + 1 := N3.size
  have z4 : w6.heap.size = w3.heap.size + 1 := N6.size
  refine .p rfl rfl (.as rfl) ?_
  refine .nil (.code (.seq (.keep [(6, _), (3, _), (1, _), (2, _)] ⟨rfl, rfl, rfl, rfl, trivial⟩ (.region ?_))))
  refine .p rfl rfl (.loadA (n := 3) rfl rfl rfl rfl rfl B2.cells) ?_
  refine .p rfl rfl (.mv rfl) ?_
  refine .p rfl rfl (.mv rfl) ?_
  refine .p rfl rfl (.build (cs := [i64 n, .slice ab b.length capb]) rfl (fun _ => by kernel_rfl)) ?_
  refine .p rfl rfl (.build (cs := [.bool false, i64 n, .slice ab b.length capb]) rfl (fun _ => by kernel_rfl)) ?_
  refine .v rfl rfl (.lits rfl rfl (fun _ => by kernel_rfl)) ?_
  rintro _ w13 ⟨rfl, N13⟩
  refine .call (first := []) (captured := []) rfl rfl rfl rfl (Do_fn (tDisk.ext0 h (N3.ext.trans (N6.ext.trans N13.ext))) (act_one (a := ⟨false, n, b⟩) (tBytes.ext0 hb (N3.ext.trans N6.ext)) rfl hn N13)) ?_
  rintro _ w14 ⟨v14, rfl, D14, X14⟩
  obtain ⟨a1, c1, a2, c2, rfl⟩ := D14.val
  have XX := N13.ext.trans X14
  have z13 : w13.heap.size = w6.heap.size + 1 := N13.size
  refine .p rfl rfl (.extract rfl rfl) ?_
  refine .p rfl rfl (.extract rfl rfl) ?_
  refine .s rfl (.storeAll (n := 3) rfl rfl rfl rfl rfl (N6.blk.ext XX (fun x => x)) rfl) ?_
  intro w67 P67
  have z67 := P67.size
  refine .p rfl rfl (.as rfl) ?_
  refine .nil (.code ?_)
  refine .retR (.cell (n := 3) rfl rfl rfl rfl rfl (P67.blk.cells) (.tmp rfl .nil)) ?_
  exact ⟨_, rfl, (D14.ext P67.ext (fun k h _ he => by have h : w13.heap.size ≤ k := h; have he : k = w3.heap.size := he; omega)).mono (fun k h _ => by have h : w13.heap.size ≤ k := h; show w.heap.size ≤ k; omega), (N3.ext.trans (N6.ext.trans XX)).then P67.ext (by rintro k rfl _; show w.heap.size ≤ w3.heap.size; omega)⟩
theorem Flush_fn {w : World} {v : Value} {d : Disk} (h : tDisk.rep All w v d) : Fn Try.prog 14 [v] w (fun r w2 => ∃ v', r = .tuple #[v', i64 (doF d [⟨true, 0, []⟩]).2] ∧ OwnD w2 v' (doF d [⟨true, 0, []⟩]).1 (fun k => w.heap.size ≤ k) ∧ Ext (fun _ => False) w w2) := by
  obtain ⟨u, u', rfl, hd, hw, hc1, hc2⟩ := tDisk.val h
  refine Fn.enter (fun w => Try.call14 _ w) Try.func14 rfl ?_
  refine .seq (.region ?_)
  refine .v rfl rfl (.box rfl) ?_
  rintro _ w1 ⟨rfl, N1⟩
  refine .v rfl rfl (.alloc rfl rfl) ?_
  rintro _ w2 ⟨rfl, N2⟩
  have B2 := N1.blk.ext N2.ext (fun x => x)
  have z2 : w1.heap.size = w.heap.size + 1 := N1.size
  have z4 : w2.heap.size = w1.heap.size + 1 := N2.size
  refine .p rfl rfl (.as rfl) ?_
  refine .nil (.code (.seq (.keep [(2, _), (1, _)] ⟨rfl, rfl, trivial⟩ (.region ?_))))
  refine .p rfl rfl (.loadA (n := 3) rfl rfl rfl rfl rfl B2.cells) ?_
  refine .p rfl rfl (.build (cs := [.bool true, i64 0, .slice none 0 0]) rfl (fun _ => by kernel_rfl)) ?_
  refine .v rfl rfl (.lits rfl rfl (fun _ => by kernel_rfl)) ?_
  rintro _ w13 ⟨rfl, N13⟩
  refine .call (first := []) (captured := []) rfl rfl rfl rfl (Do_fn (tDisk.ext0 h (N1.ext.trans (N2.ext.trans N13.ext))) (act_one (P := All) (a := ⟨true, 0, []⟩) Sl.nil rfl (by decide) N13)) ?_
  rintro _ w14 ⟨v14, rfl, D14, X14⟩
  obtain ⟨a1, c1, a2, c2, rfl⟩ := D14.val
  have XX := N13.ext.trans X14
  have z13 : w13.heap.size = w2.heap.size + 1 := N13.size
  refine .p rfl rfl (.extract rfl rfl) ?_
  refine .p rfl rfl (.extract rfl rfl) ?_
  refine .s rfl (.storeAll (n := 3) rfl rfl rfl rfl rfl (N2.blk.ext XX (fun x => x)) rfl) ?_
  intro w67 P67
  have z67 := P67.size
  refine .p rfl rfl (.as rfl) ?_
  refine .nil (.code ?_)
  refine .retR (.cell (n := 3) rfl rfl rfl rfl rfl (P67.blk.cells) (.tmp rfl .nil)) ?_
  exact ⟨_, rfl, (D14.ext P67.ext (fun k h _ he => by have h : w13.heap.size ≤ k := h; have he : k = w1.heap.size := he; omega)).mono (fun k h _ => by have h : w13.heap.size ≤ k := h; show w.heap.size ≤ k; omega), (N1.ext.trans (N2.ext.trans XX)).then P67.ext (by rintro k rfl _; show w.heap.size ≤ w1.heap.size; omega)⟩
theorem bytesEqual_fn {w : World} {v u : Value} {l m : Bs} (hl : tBytes.rep All w v l) (hm : tBytes.rep All w u m) : Fn Try.prog 41 [v, u] w (fun r w2 => r = .bool (decide (l = m)) ∧ Ext (fun _ => False) w w2) := by
  refine Fn.enter (fun w => Try.call41 _ w) Try.func41 rfl ?_
  refine .seq (.region ?_)
  refine .p rfl rfl (.as rfl) ?_
  refine .nil (.code (.seq (.keep [(0, _), (1, _)] ⟨rfl, rfl, trivial⟩ (.region ?_))))
  refine .p rfl rfl (.mv rfl) ?_
  refine .p rfl rfl (.bytesStr rfl hl rfl rfl rfl) ?_
  refine .p rfl rfl (.mv rfl) ?_
  refine .p rfl rfl (.bytesStr rfl hm rfl rfl rfl) ?_
  refine .p rfl rfl (.eqS rfl rfl) ?_
  refine .p rfl rfl (.as rfl) ?_
  refine .nil (.code ?_)
  refine .ret _ rfl ?_
  exact ⟨rfl, .refl w⟩
theorem samePut_fn {w : World} {v u : Value} {x y : disk.Put} (hx : tPut.rep All w v x) (hy : tPut.rep All w u y) : Fn Try.prog 43 [v, u] w (fun r w2 => r = .bool (decide (x = y)) ∧ Ext (fun _ => False) w w2) := by
  obtain ⟨ux, rfl, hxd, _⟩ := tPut.val hx
  obtain ⟨uy, rfl, hyd, _⟩ := tPut.val hy
  obtain ⟨xs, xd⟩ := x
  obtain ⟨ys, yd⟩ := y
  simp only at hxd hyd
  obtain ⟨ax, cx, rfl, _⟩ := Sl.val hxd
  obtain ⟨ay, cy, rfl, _⟩ := Sl.val hyd
  refine Fn.enter (fun w => Try.call43 _ w) Try.func43 rfl ?_
  refine .seq (.region ?_)
  refine .v rfl rfl (.box rfl) ?_
  rintro _ w2 ⟨rfl, N2⟩
  refine .v rfl rfl (.box rfl) ?_
  rintro _ w3 ⟨rfl, N3⟩
  have B2 := N2.blk.ext N3.ext (fun x => x)
  refine .p rfl rfl (.as rfl) ?_
  refine .nil (.code (.seq (.keep [(3, _), (2, _)] ⟨rfl, rfl, trivial⟩ (.region ?_))))
  refine .p rfl rfl (.fieldAddr rfl rfl rfl rfl) ?_
  refine .p rfl rfl (.load rfl rfl rfl (B2.cell 0)) ?_
  refine .p rfl rfl (.fieldAddr rfl rfl rfl rfl) ?_
  refine .p rfl rfl (.load rfl rfl rfl (N3.blk.cell 0)) ?_
  refine .p rfl rfl (.eq rfl rfl) ?_
  refine .p rfl rfl (.mv rfl) ?_
  refine .caseD 10 rfl (fun c10 => ?_) (fun c10 => ?_)
  · refine .p rfl rfl (.fieldAddr rfl rfl rfl rfl) ?_
    refine .p rfl rfl (.load rfl rfl rfl (B2.cell 1)) ?_
    refine .p rfl rfl (.fieldAddr rfl rfl rfl rfl) ?_
    refine .p rfl rfl (.load rfl rfl rfl (N3.blk.cell 1)) ?_
    refine .call (first := []) (captured := []) rfl rfl rfl rfl (bytesEqual_fn (tBytes.ext0 hxd (N2.ext.trans N3.ext)) (tBytes.ext0 hyd (N2.ext.trans N3.ext))) ?_
    rintro _ w15 ⟨rfl, X15⟩
    refine .p rfl rfl (.pickT rfl rfl) ?_
    refine .p rfl rfl (.as rfl) ?_
    refine .nil (.code ?_)
    refine .ret _ rfl ?_
    exact ⟨by have c10 : xs = ys := c10; subst c10; simp [Put.mk.injEq]; rfl, N2.ext.trans (N3.ext.trans X15)⟩
  · refine .skip rfl rfl ?_
    refine .skip rfl rfl ?_
    refine .skip rfl rfl ?_
    refine .skip rfl rfl ?_
    refine .skip rfl rfl ?_
    refine .p rfl rfl (.pickF rfl rfl) ?_
    refine .p rfl rfl (.as rfl) ?_
    refine .nil (.code ?_)
    refine .ret _ rfl ?_
    exact ⟨by have c10 : ¬ xs = ys := c10; simp [c10]; rfl, N2.ext.trans N3.ext⟩
theorem putsEq_fn {w : World} {v u : Value} {l m : List disk.Put} (hl : (Sl tPut).rep All w v l) (hm : (Sl tPut).rep All w u m) : Fn Try.prog 42 [v, u, .func (.func 43) #[] #[]] w (fun r w2 => r = .bool (decide (l = m)) ∧ Ext (fun _ => False) w w2) := by
  obtain ⟨al, capl, rfl, hcapl⟩ := Sl.val hl
  obtain ⟨am, capm, rfl, hcapm⟩ := Sl.val hm
  have hlim := Sl.lim hl
  have hlimM := Sl.lim hm
  simp only [Lim] at hlim hlimM
  refine Fn.enter (fun w => Try.call42 _ w) Try.func42 rfl ?_
  refine .seq (.region ?_)
  refine .p rfl rfl (.as rfl) ?_
  refine .nil (.code (.seq (.seq (.keep [(0, _), (1, _), (2, _)] ⟨rfl, rfl, rfl, trivial⟩ (.region ?_)))))
  refine .p rfl rfl (.mv rfl) ?_
  refine .p rfl rfl (.len rfl rfl) ?_
  refine .p rfl rfl (.mv rfl) ?_
  refine .p rfl rfl (.len rfl rfl) ?_
  refine .p rfl rfl (.ne rfl rfl) ?_
  refine .nil (.code (.keep [(14, _), (0, _), (1, _), (2, _)] ⟨rfl, rfl, rfl, rfl, trivial⟩ ?_))
  refine .condD rfl (fun c14 => ?_) (fun c14 => ?_)
  · refine .seq (.keep [] trivial (.region ?_))
    refine .p rfl rfl (.as rfl) ?_
    refine .nil (.code ?_)
    refine .ret _ rfl ?_
    exact ⟨by rw [decide_eq_false (fun h => by rw [h] at c14; exact c14 rfl)]; rfl, .refl _⟩
  · refine .skip (.code (.seq (.seq (.keep [(0, _), (1, _), (2, _)] ⟨rfl, rfl, rfl, trivial⟩ (.region ?_)))))
    refine .p rfl rfl (.mv rfl) ?_
    refine .p rfl rfl (.len rfl rfl) ?_
    refine .p rfl rfl (.mv rfl) ?_
    refine .nil (.code (.block (.keep [(17, _), (16, _), (15, _), (1, _), (2, _)] ⟨rfl, rfl, rfl, rfl, rfl, trivial⟩ ?_)))
    have hlen : l.length = m.length := by omega
    refine .loop (S := Nat × World) (fun s => [(1, .slice am m.length capm), (2, .func (.func 43) #[] #[]), (15, .slice al l.length capl), (16, i64 l.length), (17, i64 s.1)]) (fun s => s.2) (fun s => s.1 ≤ l.length ∧ Ext (fun _ => False) w s.2 ∧ l.take s.1 = m.take s.1) (fun s => l.length - s.1) (0, w) ⟨rfl, rfl, rfl, rfl, rfl, trivial⟩ rfl ⟨Nat.zero_le _, .refl _, rfl⟩ ?_
    rintro ⟨i, wi⟩ J ⟨hi', hX, htk⟩ again
    simp only at hi' hX htk
    refine .seq (.region ?_)
    refine .p rfl rfl (.lt rfl rfl) ?_
    refine .nil (.code (.seq ?_))
    refine .condD rfl (fun c18 => ?_) (fun c18 => ?_)
    · have hil : i < l.length := by omega
      have him : i < m.length := by omega
      obtain ⟨b1, o1, q1, ue, e, _, hcs, hre⟩ := Sl.at hl (List.getElem?_eq_getElem hil)
      cases e
      obtain ⟨ud, rfl, hudl, hsl⟩ := tPut.val hre
      obtain ⟨ad, capd, rfl, _⟩ := Sl.val hudl
      have hcs' := hcs.ext hX (fun x => x)
      obtain ⟨b2, o2, q2, ue2, e2, _, hcm, hrm⟩ := Sl.at hm (List.getElem?_eq_getElem him)
      cases e2
      obtain ⟨um, rfl, hudm, hsm⟩ := tPut.val hrm
      obtain ⟨adm, capdm, rfl, _⟩ := Sl.val hudm
      have hcm' := hcm.ext hX (fun x => x)
      refine .skip (.code (.seq (.block (.seq (.keep [(1, _), (2, _), (15, _), (16, _), (17, _)] ⟨rfl, rfl, rfl, rfl, rfl, trivial⟩ (.region ?_))))))
      refine .p rfl rfl (.mv rfl) ?_
      refine .p rfl rfl (.indexAddr (s := 2) rfl rfl rfl rfl (by omega)) ?_
      refine .p rfl rfl (.loadA (n := 2) rfl rfl rfl rfl rfl hcs') ?_
      refine .v rfl rfl (.alloc rfl rfl) ?_
      rintro _ w8 ⟨rfl, N8⟩
      refine .p rfl rfl (.as rfl) ?_
      refine .s rfl (.storeAll (n := 2) rfl rfl rfl rfl rfl N8.blk rfl) ?_
      intro w20 P20
      have z8 : w8.heap.size = wi.heap.size + 1 := N8.size
      have X8 := N8.ext.then P20.ext (by rintro k rfl _; exact Nat.le_refl _)
      refine .nil (.code (.seq (.keep [(7, _), (8, _), (1, _), (2, _), (15, _), (16, _), (17, _)] ⟨rfl, rfl, rfl, rfl, rfl, rfl, rfl, trivial⟩ (.region ?_))))
      refine .p rfl rfl (.mv rfl) ?_
      refine .p rfl rfl (.mv rfl) ?_
      refine .p rfl rfl (.indexAddr (s := 2) rfl rfl rfl rfl (by omega)) ?_
      refine .p rfl rfl (.loadA (n := 2) rfl rfl rfl rfl rfl (hcm'.ext X8 (fun x => x))) ?_
      refine .v rfl rfl (.alloc rfl rfl) ?_
      rintro _ w9 ⟨rfl, N9⟩
      refine .s rfl (.storeAll (n := 2) rfl rfl rfl rfl rfl N9.blk rfl) ?_
      intro w21 P21
      have z20 : w20.heap.size = w8.heap.size := P20.size
      have X9 := N9.ext.then P21.ext (by rintro k rfl _; exact Nat.le_refl _)
      have B8 := (P20.blk.ext N9.ext (fun x => x)).ext P21.ext (by show ¬ wi.heap.size = w20.heap.size; omega)
      have Z9 := hX.trans (X8.trans X9)
      refine .nil (.code (.seq (.keep [(9, _), (8, _), (1, _), (2, _), (15, _), (16, _), (17, _)] ⟨rfl, rfl, rfl, rfl, rfl, rfl, rfl, trivial⟩ (.region ?_))))
      refine .p rfl rfl (.mv rfl) ?_
      refine .p rfl rfl (.loadA (n := 2) rfl rfl rfl rfl rfl B8.cells) ?_
      refine .p rfl rfl (.loadA (n := 2) rfl rfl rfl rfl rfl P21.blk.cells) ?_
      refine .call (first := []) (captured := []) rfl rfl rfl rfl (samePut_fn (tPut.mk (tBytes.ext0 hudl Z9) hsl) (tPut.mk (tBytes.ext0 hudm Z9) hsm)) ?_
      rintro _ w29 ⟨rfl, X29⟩
      refine .p rfl rfl (.notD rfl) ?_
      refine .nil (.code (.keep [(30, _), (1, _), (2, _), (15, _), (16, _), (17, _)] ⟨rfl, rfl, rfl, rfl, rfl, rfl, trivial⟩ ?_))
      refine .condD rfl (fun c30 => ?_) (fun c30 => ?_)
      · refine .seq (.keep [] trivial (.region ?_))
        refine .p rfl rfl (.as rfl) ?_
        refine .nil (.code ?_)
        refine .ret _ rfl ?_
        exact ⟨by rw [decide_eq_false (fun h => by subst h; exact c30 rfl)]; rfl, Z9.trans X29⟩
      · refine .skip (.blk (.code (.keep [(1, _), (2, _), (15, _), (16, _), (17, _)] ⟨rfl, rfl, rfl, rfl, rfl, trivial⟩ (.region ?_))))
        refine .p rfl rfl (.add rfl rfl (by omega)) ?_
        refine .p rfl rfl (.mv rfl) ?_
        refine .nil ?_
        exact (again (i + 1, w29) ⟨by show i + 1 ≤ _; omega, Z9.trans X29, by show l.take (i + 1) = m.take (i + 1); rw [List.take_succ_eq_append_getElem hil, List.take_succ_eq_append_getElem him, htk, Decidable.not_not.1 c30]⟩ (by show _ - (i + 1) < _ - i; omega)).of ⟨rfl, rfl, rfl, rfl, rfl, trivial⟩
    · refine .exit rfl (.code (.seq (.keep [] trivial (.region ?_))))
      refine .p rfl rfl (.as rfl) ?_
      refine .nil (.code ?_)
      refine .ret _ rfl ?_
      obtain rfl : i = l.length := by omega
      exact ⟨by rw [decide_eq_true (by rw [List.take_length, hlen, List.take_length] at htk; exact htk)]; rfl, hX⟩
theorem Same_fn {w : World} {v u : Value} {a b : Disk} (ha : tDisk.rep All w v a) (hb : tDisk.rep All w u b) : Fn Try.prog 19 [v, u] w (fun r w2 => r = .bool (decide (a = b)) ∧ Ext (fun _ => False) w w2) := by
  obtain ⟨va, va', rfl, had, haw, _⟩ := tDisk.val ha
  obtain ⟨vb, vb', rfl, hbd, hbw, _⟩ := tDisk.val hb
  obtain ⟨ac, ad, aw⟩ := a
  obtain ⟨bc, bd, bw⟩ := b
  simp only at had haw hbd hbw
  obtain ⟨x1, y1, rfl, _⟩ := Sl.val had
  obtain ⟨x2, y2, rfl, _⟩ := Sl.val haw
  obtain ⟨x3, y3, rfl, _⟩ := Sl.val hbd
  obtain ⟨x4, y4, rfl, _⟩ := Sl.val hbw
  refine Fn.enter (fun w => Try.call19 _ w) Try.func19 rfl ?_
  refine .seq (.region ?_)
  refine .v rfl rfl (.box rfl) ?_
  rintro _ w2 ⟨rfl, N2⟩
  refine .v rfl rfl (.box rfl) ?_
  rintro _ w3 ⟨rfl, N3⟩
  have B2 := N2.blk.ext N3.ext (fun x => x)
  have X3 := N2.ext.trans N3.ext
  refine .p rfl rfl (.as rfl) ?_
  refine .nil (.code (.seq (.keep [(3, _), (2, _)] ⟨rfl, rfl, trivial⟩ (.region ?_))))
  refine .p rfl rfl (.fieldAddr rfl rfl rfl rfl) ?_
  refine .p rfl rfl (.load rfl rfl rfl (B2.cell 0)) ?_
  refine .p rfl rfl (.fieldAddr rfl rfl rfl rfl) ?_
  refine .p rfl rfl (.load rfl rfl rfl (N3.blk.cell 0)) ?_
  refine .p rfl rfl (.eq rfl rfl) ?_
  refine .p rfl rfl (.mv rfl) ?_
  refine .caseD 10 rfl (fun c10 => ?_) (fun c10 => ?_)
  · refine .p rfl rfl (.fieldAddr rfl rfl rfl rfl) ?_
    refine .p rfl rfl (.load rfl rfl rfl (B2.cell 1)) ?_
    refine .p rfl rfl (.fieldAddr rfl rfl rfl rfl) ?_
    refine .p rfl rfl (.load rfl rfl rfl (N3.blk.cell 1)) ?_
    refine .call (first := []) (captured := []) rfl rfl rfl rfl (bytesEqual_fn (tBytes.ext0 had X3) (tBytes.ext0 hbd X3)) ?_
    rintro _ w15 ⟨rfl, X15⟩
    refine .p rfl rfl (.pickT rfl rfl) ?_
    refine .p rfl rfl (.mv rfl) ?_
    refine .caseD 17 rfl (fun c17 => ?_) (fun c17 => ?_)
    · refine .p rfl rfl (.fieldAddr rfl rfl rfl rfl) ?_
      refine .p rfl rfl (.load rfl rfl rfl ((B2.ext X15 (fun x => x)).cell 2)) ?_
      refine .p rfl rfl (.fieldAddr rfl rfl rfl rfl) ?_
      refine .p rfl rfl (.load rfl rfl rfl ((N3.blk.ext X15 (fun x => x)).cell 2)) ?_
      refine .call (first := []) (captured := []) rfl rfl rfl rfl (putsEq_fn ((Sl tPut).ext0 haw (X3.trans X15)) ((Sl tPut).ext0 hbw (X3.trans X15))) ?_
      rintro _ w22 ⟨rfl, X22⟩
      refine .p rfl rfl (.pickT rfl rfl) ?_
      refine .p rfl rfl (.as rfl) ?_
      refine .nil (.code ?_)
      refine .ret _ rfl ?_
      exact ⟨by have c10 : ac = bc := c10; have c17 : ad = bd := c17; subst c10; subst c17; simp [Disk.mk.injEq]; rfl, X3.trans (X15.trans X22)⟩
    · refine .skip rfl rfl ?_
      refine .skip rfl rfl ?_
      refine .skip rfl rfl ?_
      refine .skip rfl rfl ?_
      refine .skip rfl rfl ?_
      refine .p rfl rfl (.pickF rfl rfl) ?_
      refine .p rfl rfl (.as rfl) ?_
      refine .nil (.code ?_)
      refine .ret _ rfl ?_
      exact ⟨by have c17 : ¬ ad = bd := c17; simp [c17]; rfl, X3.trans X15⟩
  · refine .skip rfl rfl ?_
    refine .skip rfl rfl ?_
    refine .skip rfl rfl ?_
    refine .skip rfl rfl ?_
    refine .skip rfl rfl ?_
    refine .p rfl rfl (.pickF rfl rfl) ?_
    refine .p rfl rfl (.mv rfl) ?_
    refine .skip rfl rfl ?_
    refine .skip rfl rfl ?_
    refine .skip rfl rfl ?_
    refine .skip rfl rfl ?_
    refine .skip rfl rfl ?_
    refine .p rfl rfl (.pickF rfl rfl) ?_
    refine .p rfl rfl (.as rfl) ?_
    refine .nil (.code ?_)
    refine .ret _ rfl ?_
    exact ⟨by have c10 : ¬ ac = bc := c10; simp [c10]; rfl, X3⟩
end Go.Proofs.Ytfgjpiemnfefmaa
