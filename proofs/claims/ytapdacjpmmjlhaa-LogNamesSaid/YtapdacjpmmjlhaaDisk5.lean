
/-
  Package disk: a loss of power; a write; all made sure; two disks compared.
-/
import Derived.Test.YtapdacjpmmjlhaaDisk4
import Derived.Test.YtapdacjpmmjlhaaEqual
set_option linter.unusedVariables false
set_option linter.unusedSimpArgs false
set_option maxRecDepth 20000
namespace Go.Proofs.Ytapdacjpmmjlhaa
open Go disk
namespace disk
theorem check_no {d : Disk} (h : ¬ checkF d = 0) : checkF d = 20 := by
  unfold checkF at h ⊢
  split
  · rfl
  · rename_i c1
    rw [if_neg c1] at h
    split
    · rename_i c2; rw [if_pos c2] at h; exact absurd rfl h
    · rfl
theorem tAct.mk {P : Nat → Prop} {w : World} {a : Act} {u : Value} (h : tBytes.rep P w u a.put.data) (h1 : -9223372036854775808 ≤ a.put.sector ∧ a.put.sector ≤ 9223372036854775807) : tAct.rep P w (.agg #[.bool a.flush, i64 a.put.sector, u]) a := by
  refine ⟨.bool a.flush, .agg #[i64 a.put.sector, u], ?_, rfl, tPut.mk h h1⟩
  rfl
theorem act_one {P : Nat → Prop} {w w2 : World} {E : TypeId} {a : Act} {u : Value} (h : tBytes.rep P w u a.put.data) (hu : u.cells = #[u]) (h1 : -9223372036854775808 ≤ a.put.sector ∧ a.put.sector ≤ 9223372036854775807) (N : New w w2 E [.bool a.flush, i64 a.put.sector, u]) : (Sl tAct).rep All w2 (.slice (some ⟨w.heap.size, 0, none⟩) 1 1) [a] :=
  Sl.mk (us := [.agg #[.bool a.flush, i64 a.put.sector, u]]) (.cons (tAct.mk (tBytes.ext0 (allOf h) N.ext) h1) .nil) (by have := N.blk.cells; exact this) trivial N.blk.lt (by simp) (by simp [Lim]) rfl
end disk
theorem Crash_fn {w : World} {v vk : Value} {d : Disk} {ks : List Bool} (h : tDisk.rep All w v d) (hk : (Sl tBool).rep All w vk ks) : Fn Try.prog 35 [v, vk] w (fun r w2 => ∃ v', r = .tuple #[v', i64 (crashF d ks).2] ∧ OwnD w2 v' (crashF d ks).1 (fun k => w.heap.size ≤ k) ∧ Ext (fun _ => False) w w2) := by
  obtain ⟨u, u', rfl, hd, hw, hc1, hc2⟩ := tDisk.val h
  obtain ⟨ak, capk, rfl, hcapk⟩ := Sl.val hk
  have hkR := (Sl tBool).mono hk (P' := fun k => k < w.heap.size) (fun k _ h => h)
  refine Fn.enter (fun w => Try.call35 _ w) Try.func35 rfl ?_
  refine .seq (.region ?_)
  refine .v rfl rfl (.box rfl) ?_
  rintro _ w2 ⟨rfl, N2⟩
  refine .v rfl rfl (.box rfl) ?_
  rintro _ w3 ⟨rfl, N3⟩
  refine .v rfl rfl (.alloc rfl rfl) ?_
  rintro _ w4 ⟨rfl, N4⟩
  have B2 := N2.blk.ext (N3.ext.trans N4.ext) (fun x => x)
  have z2 : w2.heap.size = w.heap.size + 1 := N2.size
  have z3 : w3.heap.size = w2.heap.size + 1 := N3.size
  have z4 : w4.heap.size = w3.heap.size + 1 := N4.size
  refine .p rfl rfl (.as rfl) ?_
  refine .nil (.code (.seq (.seq (.keep [(4, _), (3, _), (2, _)] ⟨rfl, rfl, rfl, trivial⟩ (.region ?_)))))
  refine .p rfl rfl (.loadA (n := 3) rfl rfl rfl rfl rfl B2.cells) ?_
  refine .call (first := []) (captured := []) rfl rfl rfl rfl (Check_fn (tDisk.ext0 h (N2.ext.trans (N3.ext.trans N4.ext)))) ?_
  rintro _ w12 ⟨rfl, X12⟩
  have hE := N4.blk.ext X12 (fun x => x)
  have z12 : w4.heap.size ≤ w12.heap.size := X12.size
  refine .p rfl rfl (.as rfl) ?_
  refine .nil (.code (.seq (.keep [(6, _), (4, _), (3, _), (2, _)] ⟨rfl, rfl, rfl, rfl, trivial⟩ (.region ?_))))
  refine .p rfl rfl (.mv rfl) ?_
  refine .p rfl rfl (.ne rfl rfl) ?_
  refine .nil (.code (.keep [(11, _), (6, _), (4, _), (3, _), (2, _)] ⟨rfl, rfl, rfl, rfl, rfl, trivial⟩ ?_))
  refine .condD rfl (fun c11 => ?_) (fun c11 => ?_)
  · refine .seq (.keep [(6, _), (4, _)] ⟨rfl, rfl, trivial⟩ (.region ?_))
    refine .p rfl rfl (.build (cs := [i64 0, .slice none 0 0, .slice none 0 0]) rfl (fun _ => by kernel_rfl)) ?_
    refine .p rfl rfl (.mv rfl) ?_
    refine .s rfl (.storeAll (n := 3) rfl rfl rfl rfl rfl hE rfl) ?_
    intro w15 P15
    have z15 : w15.heap.size = w12.heap.size := P15.size
    refine .p rfl rfl (.as rfl) ?_
    refine .nil (.code ?_)
    refine .retR (.cell (n := 3) rfl rfl rfl rfl rfl (P15.blk.cells) (.tmp rfl .nil)) ?_
    have e : crashF d ks = (nodisk, checkF d) := by unfold crashF; rw [if_pos c11]
    rw [e]
    exact ⟨_, rfl, OwnD.none (b1 := w.heap.size) (b2 := w2.heap.size) (by omega) (by omega) (by omega) (Nat.le_refl _) (by show w.heap.size ≤ w2.heap.size; omega), (N2.ext.trans (N3.ext.trans (N4.ext.trans X12))).then P15.ext (by rintro k rfl _; show w.heap.size ≤ w3.heap.size; omega)⟩
  · have hok : checkF d = 0 := Decidable.byContradiction c11
    obtain ⟨k1, k2, k3, k4, k5⟩ := check_ok hok
    refine .skip (.code (.seq (.keep [(4, _), (3, _), (2, _)] ⟨rfl, rfl, rfl, trivial⟩ (.region ?_))))
    refine .p rfl rfl (.loadA (n := 3) rfl rfl rfl rfl rfl (B2.ext X12 (fun x => x)).cells) ?_
    refine .call (first := []) (captured := []) rfl rfl rfl rfl (twin_fn (tDisk.ext0 h (N2.ext.trans (N3.ext.trans (N4.ext.trans X12)))) (by omega)) ?_
    rintro r18 w18 ⟨D18, X18⟩
    have z18 : w12.heap.size ≤ w18.heap.size := X18.size
    obtain ⟨a1, c1, a2, c2, rfl⟩ := D18.val
    refine .v rfl rfl (.alloc rfl rfl) ?_
    rintro _ w7 ⟨rfl, N7⟩
    have z7 : w7.heap.size = w18.heap.size + 1 := N7.size
    refine .s rfl (.storeAll (n := 3) rfl rfl rfl rfl rfl N7.blk rfl) ?_
    intro w19 P19
    have z19 : w19.heap.size = w7.heap.size := P19.size
    have X19 := N7.ext.then P19.ext (by rintro k rfl _; exact Nat.le_refl _)
    have D19 := (D18.mono (P' := fun k => w12.heap.size ≤ k ∧ k ≠ w18.heap.size) (fun k h1 h2 => ⟨h1, Nat.ne_of_lt h2⟩)).ext0 X19
    have Z19 := N4.ext.trans (X12.trans (X18.trans X19))
    have B3 := N3.blk.ext Z19 (fun x => x)
    have hnP : ∀ k, k < w12.heap.size → ¬ (k = w18.heap.size ∨ (w12.heap.size ≤ k ∧ k ≠ w18.heap.size)) := fun k hk h => by rcases h with h | h <;> omega
    refine .nil (.code (.seq (.keep [(7, _), (4, _), (3, _)] ⟨rfl, rfl, rfl, trivial⟩ (.region ?_))))
    refine .p rfl rfl (.makeFunc rfl rfl) ?_
    refine .call (first := []) (captured := []) rfl rfl rfl rfl (settle_fn (f := 59) (cap := [.pointer (some ⟨w2.heap.size, 0, none⟩)]) (keep := fun i => ks.getD i false) P19.blk D19 (fun h => h.2 rfl) hok (fun j w' hj hx => keepAt_fn (by omega) (B3.ext hx (hnP _ (by omega))) (allOf ((Sl tBool).ext ((Sl tBool).ext0 hkR (N2.ext.trans (N3.ext.trans Z19))) hx (fun k hk _ => hnP k (by omega)))))) ?_
    rintro _ w41 ⟨rfl, u3, B41, D41, X41⟩
    obtain ⟨e1, f1, e2, f2, e3⟩ := D41.val
    simp [settleD] at e3
    obtain ⟨rfl, rfl, rfl⟩ := e3
    refine .nil (.code (.seq (.keep [(7, _), (4, _)] ⟨rfl, rfl, trivial⟩ (.region ?_))))
    refine .p rfl rfl (.loadA (n := 3) rfl rfl rfl rfl rfl B41.cells) ?_
    refine .s rfl (.storeAll (n := 3) rfl rfl rfl rfl rfl ((N4.blk.ext (X12.trans (X18.trans X19)) (fun x => x)).ext X41 (hnP _ (by omega))) rfl) ?_
    intro w67 P67
    have z41 : w19.heap.size ≤ w41.heap.size := X41.size
    have z67 : w67.heap.size = w41.heap.size := P67.size
    refine .p rfl rfl (.as rfl) ?_
    refine .nil (.code ?_)
    refine .retR (.cell (n := 3) rfl rfl rfl rfl rfl (P67.blk.cells) (.tmp rfl .nil)) ?_
    have e : crashF d ks = (settleD d (fun i => ks.getD i false), 0) := by unfold crashF; rw [if_neg (by simp [hok])]
    rw [e]
    exact ⟨_, rfl, (D41.ext P67.ext (fun k h _ he => by have h := h.1; have he : k = w3.heap.size := he; omega)).mono (fun k h _ => by have h := h.1; show w.heap.size ≤ k; omega), ((N2.ext.trans (N3.ext.trans Z19)).then X41 (by rintro k (h | h) _ <;> omega)).then P67.ext (by rintro k rfl _; show w.heap.size ≤ w3.heap.size; omega)⟩
end Go.Proofs.Ytapdacjpmmjlhaa
