/-
  PageNames: walked.
-/
import Derived.Test.YtgolflhoajafhaaLaw08e
set_option linter.unusedVariables false
set_option linter.unusedSimpArgs false
set_option maxRecDepth 20000
namespace Go.Proofs.Ytgolflhoajafhaa
open Go page
namespace page
def aa2 : Entry := ⟨[97], [], 2, false⟩
def aa1 : Entry := ⟨[97], [], 1, false⟩
def bad8 : Entry := ⟨[97], [120], 0, true⟩
theorem make0 : (makeE []).2 = 0 ∧ (makeE []).1.length = 5 ∧ (makeE []).1[0]? = some 0 := by decide +kernel
theorem make0_at (h : 0 < (makeE []).1.length) : (makeE []).1[0] = 0 := by have := make0.2.2; rw [List.getElem?_eq_getElem h] at this; exact Option.some.inj this
theorem makeL : (makeE [aa2, aa1]).2 = 0 := by decide +kernel
theorem checks : checkE [aa2, aa1] = 0 ∧ checkE [aa1, aa2] = 100 ∧ checkE [zeroE] = 60 ∧ checkE [bad8] = 8 := by decide +kernel
theorem findA : findF (makeE [aa2, aa1]).1 [97] = (aa2, true, 0) := page_found (i := 0) makeL (by decide) (by decide) rfl (fun j _ h => absurd h (Nat.not_lt_zero _))
theorem findB : findF (makeE [aa2, aa1]).1 [98] = (zeroE, false, 0) := page_missed makeL (by decide) (by decide)
end page
theorem ent2 {P : Nat → Prop} {w2 : World} {b : Nat} {x y : Entry} (hB : Blk w2 b 32 (flat [.agg #[str x.key, str x.value, i64 x.seq, .bool x.gone], .agg #[str y.key, str y.value, i64 y.seq, .bool y.gone]])) (hx : tEntry.rep P w2 (.agg #[str x.key, str x.value, i64 x.seq, .bool x.gone]) x) (hy : tEntry.rep P w2 (.agg #[str y.key, str y.value, i64 y.seq, .bool y.gone]) y) (hb : P b) : (Sl tEntry).rep P w2 (.slice (some ⟨b, 0, none⟩) 2 2) [x, y] :=
  Sl.mk (.cons hx (.cons hy .nil)) hB.cells hb hB.lt (Nat.le_refl _) (by show 2 < Lim; decide) rfl
theorem ent1 {P : Nat → Prop} {w2 : World} {b : Nat} {x : Entry} (hB : Blk w2 b 32 (flat [.agg #[str x.key, str x.value, i64 x.seq, .bool x.gone]])) (hx : tEntry.rep P w2 (.agg #[str x.key, str x.value, i64 x.seq, .bool x.gone]) x) (hb : P b) : (Sl tEntry).rep P w2 (.slice (some ⟨b, 0, none⟩) 1 1) [x] :=
  Sl.mk (.cons hx .nil) hB.cells hb hB.lt (Nat.le_refl _) (by show 1 < Lim; decide) rfl
theorem entK {P : Nat → Prop} {w : World} {x : Entry} (h : (decide (x.key.length < Lim) && decide (x.value.length < Lim) && decide (-9223372036854775808 ≤ x.seq) && decide (x.seq ≤ 9223372036854775807)) = true) : tEntry.rep P w (.agg #[str x.key, str x.value, i64 x.seq, .bool x.gone]) x := by
  simp only [Bool.and_eq_true, decide_eq_true_eq] at h
  exact tEntry.mk h.1.1.1 h.1.1.2 ⟨h.1.2, h.2⟩
theorem PageNames_fn {w : World} : Fn Try.prog 6 [] w (fun r w2 => r = .bool true ∧ Ext (fun _ => False) w w2) := by
  refine Fn.enter (fun w => Try.call6 _ w) Try.func6 rfl ?_
  refine .seq (.region ?_)
  refine .p rfl rfl (.as rfl) ?_
  refine .nil (.code (.seq (.keep [] trivial (.region ?_))))
  refine .call (first := []) (captured := []) rfl rfl rfl rfl (Make_fn (l := []) Sl.nil) ?_
  rintro _ w13 ⟨v13, rfl, G13, X13⟩
  obtain ⟨m01, m02, m03⟩ := make0
  obtain ⟨a13, c13, rfl, hc13⟩ := OwnO.val G13
  have R13 := Gr.rep G13
  rw [m02]
  refine .p rfl rfl (.mv rfl) ?_
  refine .p rfl rfl (.extract rfl rfl) ?_
  refine .p rfl rfl (.extract rfl rfl) ?_
  refine .p rfl rfl (.as rfl) ?_
  refine .p rfl rfl (.as rfl) ?_
  refine .nil (.code (.seq (.keep [(2, _), (1, _)] ⟨rfl, rfl, trivial⟩ (.region ?_))))
  refine .p rfl rfl (.build (cs := [str aa2.key, str aa2.value, i64 aa2.seq, .bool aa2.gone]) rfl (fun _ => by kernel_rfl)) ?_
  refine .p rfl rfl (.build (cs := [str aa1.key, str aa1.value, i64 aa1.seq, .bool aa1.gone]) rfl (fun _ => by kernel_rfl)) ?_
  refine .v rfl rfl (.lits rfl rfl (fun _ => by kernel_rfl)) ?_
  rintro _ w18 ⟨rfl, N18⟩
  have X18 := N18.ext
  have R18 : (Sl tEntry).rep All w18 (.slice (some ⟨w13.heap.size, 0, none⟩) 2 2) [aa2, aa1] := ent2 (x := aa2) (y := aa1) N18.blk (entK (x := aa2) (by decide)) (entK (x := aa1) (by decide)) trivial
  refine .p rfl rfl (.as rfl) ?_
  refine .nil (.code (.seq (.keep [(3, _), (2, _), (1, _)] ⟨rfl, rfl, rfl, trivial⟩ (.region ?_))))
  refine .p rfl rfl (.mv rfl) ?_
  refine .call (first := []) (captured := []) rfl rfl rfl rfl (Make_fn R18) ?_
  rintro _ w21 ⟨v21, rfl, G21, X21⟩
  obtain ⟨a21, c21, rfl, hc21⟩ := OwnO.val G21
  refine .p rfl rfl (.mv rfl) ?_
  refine .p rfl rfl (.extract rfl rfl) ?_
  refine .p rfl rfl (.extract rfl rfl) ?_
  refine .p rfl rfl (.as rfl) ?_
  refine .p rfl rfl (.as rfl) ?_
  refine .nil (.code (.seq (.keep [(5, _), (4, _), (3, _), (2, _), (1, _)] ⟨rfl, rfl, rfl, rfl, rfl, trivial⟩ (.region ?_))))
  refine .p rfl rfl (.mv rfl) ?_
  refine .call (first := []) (captured := []) rfl rfl rfl rfl (Find_fn (key := [97]) (tBytes.ext0 (Gr.rep G21) (by repeat (first | exact Ext.refl _ | assumption | refine Ext.trans (by assumption) ?_)))) ?_
  rintro _ w26 ⟨rfl, X26⟩
  rw [findA]
  refine .p rfl rfl (.mv rfl) ?_
  refine .p rfl rfl (.extract rfl rfl) ?_
  refine .p rfl rfl (.extract rfl rfl) ?_
  refine .p rfl rfl (.extract rfl rfl) ?_
  refine .v rfl rfl (.alloc rfl rfl) ?_
  rintro _ wn6 ⟨rfl, N6⟩
  refine .s rfl (.storeAll (n := 4) rfl rfl rfl rfl rfl N6.blk rfl) ?_
  intro w6 P6
  have XP6 := N6.ext.then P6.ext (by rintro k rfl _; exact Nat.le_refl _)
  have B6 := P6.blk
  clear N6 P6
  refine .p rfl rfl (.as rfl) ?_
  refine .p rfl rfl (.as rfl) ?_
  refine .nil (.code (.seq (.keep [(8, _), (7, _), (6, _), (5, _), (4, _), (3, _), (2, _), (1, _)] ⟨rfl, rfl, rfl, rfl, rfl, rfl, rfl, rfl, trivial⟩ (.region ?_))))
  refine .p rfl rfl (.mv rfl) ?_
  refine .call (first := []) (captured := []) rfl rfl rfl rfl (Find_fn (key := [98]) (tBytes.ext0 (Gr.rep G21) (by repeat (first | exact Ext.refl _ | assumption | refine Ext.trans (by assumption) ?_)))) ?_
  rintro _ w32 ⟨rfl, X32⟩
  rw [findB]
  refine .p rfl rfl (.mv rfl) ?_
  refine .p rfl rfl (.extract rfl rfl) ?_
  refine .p rfl rfl (.extract rfl rfl) ?_
  refine .p rfl rfl (.extract rfl rfl) ?_
  refine .v rfl rfl (.alloc rfl rfl) ?_
  rintro _ wn9 ⟨rfl, N9⟩
  refine .s rfl (.storeAll (n := 4) rfl rfl rfl rfl rfl N9.blk rfl) ?_
  intro w9 P9
  have XP9 := N9.ext.then P9.ext (by rintro k rfl _; exact Nat.le_refl _)
  have B9 := P9.blk
  clear N9 P9
  refine .p rfl rfl (.as rfl) ?_
  refine .p rfl rfl (.as rfl) ?_
  refine .nil (.code (.seq (.keep [(11, _), (10, _), (8, _), (7, _), (6, _), (5, _), (3, _), (2, _), (1, _)] ⟨rfl, rfl, rfl, rfl, rfl, rfl, rfl, rfl, rfl, trivial⟩ (.mix (fun _ => False) [1, 44, 54, 55, 60, 61, 66, 67] (by kernel_rfl) (by kernel_rfl) (by kernel_rfl) ?_))))
  refine .p rfl rfl rfl (fun wx hx => .mv rfl) ?_
  refine .call (first := []) (captured := []) rfl rfl rfl rfl rfl (alive_fn) (by rintro _ _ ⟨_, hx⟩; exact Ext.trans (by repeat (first | exact Ext.refl _ | assumption | refine Ext.trans (by assumption) ?_)) hx) ?_
  rintro _ w37 ⟨rfl, X37⟩
  refine .p rfl rfl rfl (fun wx hx => .pickT rfl rfl) ?_
  refine .p rfl rfl rfl (fun wx hx => .mv rfl) ?_
  refine .p rfl rfl rfl (fun wx hx => .mv rfl) ?_
  refine .p rfl rfl rfl (fun wx hx => .yes (.eq rfl rfl) (make0.1)) ?_
  refine .p rfl rfl rfl (fun wx hx => .pickT rfl rfl) ?_
  refine .p rfl rfl rfl (fun wx hx => .mv rfl) ?_
  refine .p rfl rfl rfl (fun wx hx => .mv rfl) ?_
  refine .p rfl rfl rfl (fun wx hx => .len rfl rfl) ?_
  refine .p rfl rfl rfl (fun wx hx => .yes (.eq rfl rfl) (rfl)) ?_
  refine .p rfl rfl rfl (fun wx hx => .pickT rfl rfl) ?_
  refine .p rfl rfl rfl (fun wx hx => .mv rfl) ?_
  refine .p rfl rfl rfl (fun wx hx => .mv rfl) ?_
  obtain ⟨b51, o51, rfl, _, hc51⟩ := Sl.byteAt (tBytes.ext0 R13 (by repeat (first | exact Ext.refl _ | assumption | refine Ext.trans (by assumption) ?_))) (k := 0) (by rw [m02]; decide)
  rw [make0_at] at hc51
  refine .p rfl rfl rfl (fun wx hx => .indexAddr1 rfl rfl rfl rfl (by omega)) ?_
  refine .p rfl rfl rfl (fun wx hx => .load rfl rfl rfl (Ext.cell (S := fun _ => False) (Ext.trans (by repeat (first | exact Ext.refl _ | assumption | refine Ext.trans (by assumption) ?_)) hx) hc51 (fun x => x))) ?_
  refine .p rfl rfl rfl (fun wx hx => .yes (.eq rfl rfl) (rfl)) ?_
  refine .p rfl rfl rfl (fun wx hx => .pickT rfl rfl) ?_
  refine .p rfl rfl rfl (fun wx hx => .mv rfl) ?_
  refine .p rfl rfl rfl (fun wx hx => .mv rfl) ?_
  refine .p rfl rfl rfl (fun wx hx => .yes (.eq rfl rfl) (makeL)) ?_
  refine .p rfl rfl rfl (fun wx hx => .pickT rfl rfl) ?_
  refine .p rfl rfl rfl (fun wx hx => .mv rfl) ?_
  refine .p rfl rfl rfl (fun wx hx => .mv rfl) ?_
  refine .p rfl rfl rfl (fun wx hx => .pickT rfl rfl) ?_
  refine .p rfl rfl rfl (fun wx hx => .mv rfl) ?_
  refine .p rfl rfl rfl (fun wx hx => .fieldAddr rfl rfl rfl rfl) ?_
  refine .p rfl rfl rfl (fun wx hx => .load rfl rfl rfl ((B6.ext (S := fun _ => False) (Ext.trans (by repeat (first | exact Ext.refl _ | assumption | refine Ext.trans (by assumption) ?_)) hx) (fun x => x)).cell 2)) ?_
  refine .p rfl rfl rfl (fun wx hx => .yes (.eq rfl rfl) (rfl)) ?_
  refine .p rfl rfl rfl (fun wx hx => .pickT rfl rfl) ?_
  refine .p rfl rfl rfl (fun wx hx => .mv rfl) ?_
  refine .p rfl rfl rfl (fun wx hx => .mv rfl) ?_
  refine .p rfl rfl rfl (fun wx hx => .yes (.eq rfl rfl) (rfl)) ?_
  refine .p rfl rfl rfl (fun wx hx => .pickT rfl rfl) ?_
  refine .p rfl rfl rfl (fun wx hx => .mv rfl) ?_
  refine .p rfl rfl rfl (fun wx hx => .mv rfl) ?_
  refine .p rfl rfl rfl (fun wx hx => .not rfl) ?_
  refine .p rfl rfl rfl (fun wx hx => .pickT rfl rfl) ?_
  refine .p rfl rfl rfl (fun wx hx => .mv rfl) ?_
  refine .p rfl rfl rfl (fun wx hx => .mv rfl) ?_
  refine .p rfl rfl rfl (fun wx hx => .yes (.eq rfl rfl) (rfl)) ?_
  refine .p rfl rfl rfl (fun wx hx => .pickT rfl rfl) ?_
  refine .p rfl rfl rfl (fun wx hx => .mv rfl) ?_
  refine .p rfl rfl rfl (fun wx hx => .mv rfl) ?_
  refine .call (first := []) (captured := []) rfl rfl rfl rfl rfl (Check_fn ((Sl tEntry).ext0 R18 (by repeat (first | exact Ext.refl _ | assumption | refine Ext.trans (by assumption) ?_)))) (by rintro _ _ ⟨_, hx⟩; exact Ext.trans (by repeat (first | exact Ext.refl _ | assumption | refine Ext.trans (by assumption) ?_)) hx) ?_
  rintro _ w80 ⟨rfl, X80⟩
  refine .p rfl rfl rfl (fun wx hx => .yes (.eq rfl rfl) (checks.1)) ?_
  refine .p rfl rfl rfl (fun wx hx => .pickT rfl rfl) ?_
  refine .p rfl rfl rfl (fun wx hx => .mv rfl) ?_
  refine .p rfl rfl rfl (fun wx hx => .mv rfl) ?_
  refine .p rfl rfl rfl (fun wx hx => .cast (.indexAddr (s := 4) rfl rfl rfl rfl (by omega)) (show _ = Value.pointer (some ⟨w13.heap.size, 4, none⟩) from rfl)) ?_
  refine .p rfl rfl rfl (fun wx hx => .loadA (n := 4) (cs := [str aa1.key, str aa1.value, i64 aa1.seq, .bool aa1.gone]) rfl rfl rfl rfl rfl (((N18.blk.ext (S := fun _ => False) (Ext.trans (by repeat (first | exact Ext.refl _ | assumption | refine Ext.trans (by assumption) ?_)) hx) (fun x => x)).cellsAt 4))) ?_
  refine .p rfl rfl rfl (fun wx hx => .mv rfl) ?_
  refine .p rfl rfl rfl (fun wx hx => .cast (.indexAddr (s := 4) rfl rfl rfl rfl (by omega)) (show _ = Value.pointer (some ⟨w13.heap.size, 0, none⟩) from rfl)) ?_
  refine .p rfl rfl rfl (fun wx hx => .loadA (n := 4) (cs := [str aa2.key, str aa2.value, i64 aa2.seq, .bool aa2.gone]) rfl rfl rfl rfl rfl (((N18.blk.ext (S := fun _ => False) (Ext.trans (by repeat (first | exact Ext.refl _ | assumption | refine Ext.trans (by assumption) ?_)) hx) (fun x => x)).cells.take 4))) ?_
  refine .v rfl rfl rfl (.lits rfl rfl (fun _ => by kernel_rfl)) (by rintro _ _ ⟨_, hN⟩; exact Ext.trans (by repeat (first | exact Ext.refl _ | assumption | refine Ext.trans (by assumption) ?_)) hN.ext0) ?_
  rintro _ w90 ⟨rfl, N90⟩
  have X90 := N90.ext
  refine .call (first := []) (captured := []) rfl rfl rfl rfl rfl (Check_fn (ent2 (x := aa1) (y := aa2) N90.blk (entK (x := aa1) (by decide)) (entK (x := aa2) (by decide)) trivial)) (by rintro _ _ ⟨_, hx⟩; exact Ext.trans (by repeat (first | exact Ext.refl _ | assumption | refine Ext.trans (by assumption) ?_)) hx) ?_
  rintro _ w91 ⟨rfl, X91⟩
  refine .p rfl rfl rfl (fun wx hx => .yes (.eq rfl rfl) (checks.2.1)) ?_
  refine .p rfl rfl rfl (fun wx hx => .pickT rfl rfl) ?_
  refine .p rfl rfl rfl (fun wx hx => .mv rfl) ?_
  refine .p rfl rfl rfl (fun wx hx => .build (cs := [str zeroE.key, str zeroE.value, i64 zeroE.seq, .bool zeroE.gone]) rfl (fun _ => by kernel_rfl)) ?_
  refine .v rfl rfl rfl (.lits rfl rfl (fun _ => by kernel_rfl)) (by rintro _ _ ⟨_, hN⟩; exact Ext.trans (by repeat (first | exact Ext.refl _ | assumption | refine Ext.trans (by assumption) ?_)) hN.ext0) ?_
  rintro _ w96 ⟨rfl, N96⟩
  have X96 := N96.ext
  refine .call (first := []) (captured := []) rfl rfl rfl rfl rfl (Check_fn (ent1 (x := zeroE) N96.blk (entK (x := zeroE) (by decide)) trivial)) (by rintro _ _ ⟨_, hx⟩; exact Ext.trans (by repeat (first | exact Ext.refl _ | assumption | refine Ext.trans (by assumption) ?_)) hx) ?_
  rintro _ w97 ⟨rfl, X97⟩
  refine .p rfl rfl rfl (fun wx hx => .yes (.eq rfl rfl) (checks.2.2.1)) ?_
  refine .p rfl rfl rfl (fun wx hx => .pickT rfl rfl) ?_
  refine .p rfl rfl rfl (fun wx hx => .mv rfl) ?_
  refine .p rfl rfl rfl (fun wx hx => .build (cs := [str bad8.key, str bad8.value, i64 bad8.seq, .bool bad8.gone]) rfl (fun _ => by kernel_rfl)) ?_
  refine .v rfl rfl rfl (.lits rfl rfl (fun _ => by kernel_rfl)) (by rintro _ _ ⟨_, hN⟩; exact Ext.trans (by repeat (first | exact Ext.refl _ | assumption | refine Ext.trans (by assumption) ?_)) hN.ext0) ?_
  rintro _ w102 ⟨rfl, N102⟩
  have X102 := N102.ext
  refine .call (first := []) (captured := []) rfl rfl rfl rfl rfl (Check_fn (ent1 (x := bad8) N102.blk (entK (x := bad8) (by decide)) trivial)) (by rintro _ _ ⟨_, hx⟩; exact Ext.trans (by repeat (first | exact Ext.refl _ | assumption | refine Ext.trans (by assumption) ?_)) hx) ?_
  rintro _ w103 ⟨rfl, X103⟩
  refine .p rfl rfl rfl (fun wx hx => .yes (.eq rfl rfl) (checks.2.2.2)) ?_
  refine .p rfl rfl rfl (fun wx hx => .pickT rfl rfl) ?_
  refine .p rfl rfl rfl (fun wx hx => .as rfl) ?_
  refine .nil (.code ?_)
  refine .ret _ rfl ?_
  exact ⟨rfl, (by repeat (first | exact Ext.refl _ | assumption | refine Ext.trans (by assumption) ?_))⟩
end Go.Proofs.Ytgolflhoajafhaa
