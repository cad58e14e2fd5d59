
/-
  TableNames: walked.
-/
import Derived.Test.YthkgadhamecnlaaLaw09b
import Derived.Test.YthkgadhamecnlaaTabRange
import Derived.Test.YthkgadhamecnlaaEntEq
set_option linter.unusedVariables false
set_option linter.unusedSimpArgs false
set_option maxRecDepth 20000
namespace Go.Proofs.Ythkgadhamecnlaa
open Go page table
namespace table
theorem bless_nil (a : Bs) : Op.bytesLess a [] = false := by
  rw [bytesLess_eq]
  cases a with
  | nil => rfl
  | cons x a => rfl
theorem out_all (x : Entry) : outK [] [] x = false := by unfold outK; rw [bless_nil]; rfl
theorem range_some {b lo hi : Bs} {rows : List Row} (h : openF b = some rows) (hl : ¬ (256 < lo.length ∨ 256 < hi.length)) : rangeT b lo hi = ((entsR rows).filter (fun x => !outK lo hi x), 0) := by unfold rangeT; rw [h]; simp only; rw [if_neg hl]
theorem range_none {b lo hi : Bs} (h : openF b = none) : rangeT b lo hi = ([], 90) := by unfold rangeT; rw [h]
theorem filter_all (l : List Entry) : l.filter (fun x => !outK [] [] x) = l := List.filter_eq_self.2 (fun x _ => by rw [out_all]; rfl)
theorem open_rng {l : List Entry} (h : (makeT l).2 = 0) (lo hi : Bs) (hl : ¬ (256 < lo.length ∨ 256 < hi.length)) : rangeT (makeT l).1 lo hi = (l.filter (fun x => !outK lo hi x), 0) := by
  rw [range_some (open_back (Prod.ext rfl h)) hl, ents_rows, part_flat]
theorem all_made {l : List Entry} (h : (makeT l).2 = 0) : rangeT (makeT l).1 [] [] = (l, 0) := by
  rw [open_rng h _ _ (by simp), filter_all]
theorem all_bad {b : Bs} (h : ¬ (rangeT b [] []).2 = 0) : rangeT b [] [] = ([], 90) := by
  cases ho : openF b with
  | none => exact range_none ho
  | some rows => rw [range_some ho (by simp)] at h; exact absurd rfl h
theorem all_good {b : Bs} (h : (rangeT b [] []).2 = 0) : makeT (rangeT b [] []).1 = (b, 0) := by
  cases ho : openF b with
  | none => rw [range_none ho] at h; cases h
  | some rows => rw [range_some ho (by simp), filter_all]; exact open_made ho
end table
theorem Same9_fn {w : World} {v u : Value} {l m : List Entry} (hl : (Sl tEntry).rep All w v l) (hm : (Sl tEntry).rep All w u m) : Fn Try.prog 23 [v, u] w (fun r w2 => r = .bool (decide (l = m)) ∧ Ext (fun _ => False) w w2) := by
  obtain ⟨a, cap, rfl, hcap⟩ := Sl.val hl
  obtain ⟨a2, cap2, rfl, hcap2⟩ := Sl.val hm
  have hlim := Sl.lim hl
  have hlim2 := Sl.lim hm
  simp only [Lim] at hlim hlim2
  refine Fn.enter (fun w => Try.call23 _ w) Try.func23 rfl ?_
  refine .seq (.region ?_)
  refine .p rfl rfl (.as rfl) ?_
  refine .nil (.code (.seq (.seq (.keep [(0, _), (1, _)] ⟨rfl, rfl, trivial⟩ (.region ?_)))))
  refine .p rfl rfl (.mv rfl) ?_
  refine .p rfl rfl (.len rfl rfl) ?_
  refine .p rfl rfl (.mv rfl) ?_
  refine .p rfl rfl (.len rfl rfl) ?_
  refine .p rfl rfl (.ne rfl rfl) ?_
  refine .nil (.code (.keep [(10, _), (0, _), (1, _)] ⟨rfl, rfl, rfl, trivial⟩ ?_))
  refine .condD rfl (fun c10 => ?_) (fun c10 => ?_)
  · refine .seq (.keep [] trivial (.region ?_))
    refine .p rfl rfl (.as rfl) ?_
    refine .nil (.code ?_)
    refine .ret _ rfl ?_
    exact ⟨by rw [decide_eq_false (fun h => by rw [h] at c10; exact c10 rfl)]; rfl, .refl _⟩
  · refine .skip (.code (.seq (.seq (.keep [(0, _), (1, _)] ⟨rfl, rfl, trivial⟩ (.region ?_)))))
    refine .p rfl rfl (.as rfl) ?_
    refine .nil (.code (.block ?_))
    have hlen : l.length = m.length := by omega
    refine .loop (S := Nat) (fun s => [(0, .slice a l.length cap), (1, .slice a2 m.length cap2), (5, i64 s)]) (fun s => w) (fun s => s ≤ l.length ∧ l.take s = m.take s) (fun s => l.length - s) 0 ⟨rfl, rfl, rfl, trivial⟩ rfl ⟨Nat.zero_le _, rfl⟩ ?_
    rintro i J ⟨hi', htk⟩ again
    refine .seq (.seq (.region ?_))
    refine .p rfl rfl (.mv rfl) ?_
    refine .p rfl rfl (.mv rfl) ?_
    refine .p rfl rfl (.len rfl rfl) ?_
    refine .p rfl rfl (.lt rfl rfl) ?_
    refine .nil (.code (.keep [(14, _), (0, _), (1, _), (5, _)] ⟨rfl, rfl, rfl, rfl, trivial⟩ ?_))
    refine .condD rfl (fun c14 => ?_) (fun c14 => ?_)
    · have hi : i < l.length := by omega
      have him : i < m.length := by omega
      obtain ⟨b0, o0, c0, ue, e, _, hcs, hre⟩ := Sl.at hl (List.getElem?_eq_getElem hi)
      cases e
      obtain ⟨rfl, h1, h2, h3⟩ := tEntry.val hre
      obtain ⟨b1, o1, c1, ue1, e1, _, hcm, hrm⟩ := Sl.at hm (List.getElem?_eq_getElem him)
      cases e1
      obtain ⟨rfl, g1, g2, g3⟩ := tEntry.val hrm
      refine .skip (.code (.seq (.block (.seq (.keep [(0, _), (1, _), (5, _)] ⟨rfl, rfl, rfl, trivial⟩ (.draws (by kernel_rfl) (by kernel_rfl) ?_))))))
      refine .p rfl rfl (.mv rfl) ?_
      refine .p rfl rfl (.mv rfl) ?_
      refine .p rfl rfl (.indexAddr (s := 4) rfl rfl rfl rfl (by omega)) ?_
      refine .p rfl rfl (.loadA (n := 4) rfl rfl rfl rfl rfl hcs) ?_
      refine .p rfl rfl (.mv rfl) ?_
      refine .p rfl rfl (.mv rfl) ?_
      refine .p rfl rfl (.indexAddr (s := 4) rfl rfl rfl rfl (by omega)) ?_
      refine .p rfl rfl (.loadA (n := 4) rfl rfl rfl rfl rfl hcm) ?_
      refine .p rfl rfl (.neA (xs := [_, _, _, _]) (ys := [_, _, _, _]) rfl rfl (by kernel_rfl) (entry_eq l[i] m[i])) ?_
      refine .nil (.code (.keep [(25, _), (0, _), (1, _), (5, _)] ⟨rfl, rfl, rfl, rfl, trivial⟩ ?_))
      refine .cond rfl (fun c25 => ?_) (fun c25 => ?_)
      · refine .seq (.keep [] trivial (.region ?_))
        refine .p rfl rfl (.as rfl) ?_
        refine .nil (.code ?_)
        refine .ret _ rfl ?_
        exact ⟨by rw [decide_eq_false (fun h => by subst h; simp at c25)]; rfl, .refl _⟩
      · refine .skip (.blk (.code (.keep [(0, _), (1, _), (5, _)] ⟨rfl, rfl, rfl, trivial⟩ (.region ?_))))
        refine .p rfl rfl (.mv rfl) ?_
        refine .p rfl rfl (.add rfl rfl (by omega)) ?_
        refine .p rfl rfl (.as rfl) ?_
        refine .nil ?_
        exact (again (i + 1) ⟨by show i + 1 ≤ _; omega, by show l.take (i + 1) = m.take (i + 1); rw [List.take_succ_eq_append_getElem hi, List.take_succ_eq_append_getElem him, htk, show l[i] = m[i] by simpa using c25]⟩ (by show _ - (i + 1) < _ - i; omega)).of ⟨rfl, rfl, rfl, trivial⟩
    · refine .exit rfl (.code (.seq (.keep [] trivial (.region ?_))))
      refine .p rfl rfl (.as rfl) ?_
      refine .nil (.code ?_)
      refine .ret _ rfl ?_
      obtain rfl : i = l.length := by omega
      exact ⟨by rw [decide_eq_true (by rw [List.take_length, hlen, List.take_length] at htk; exact htk)]; rfl, .refl _⟩
theorem Same9T_fn {w : World} {v u : Value} {l : List Entry} (hl : (Sl tEntry).rep All w v l) (hm : (Sl tEntry).rep All w u l) : Fn Try.prog 23 [v, u] w (fun r w2 => r = .bool true ∧ Ext (fun _ => False) w w2) :=
  (Same9_fn hl hm).mono fun r w2 ⟨h1, h2⟩ => ⟨h1.trans (by rw [decide_eq_true rfl]), h2⟩
namespace table
theorem three_open : openF (makeT threeE).1 = some ((partF threeE).map rowOf) := open_back (Prod.ext rfl three_made)
theorem three_part : partF threeE = [threeE] := by decide +kernel
theorem n_find1 : findT (makeT threeE).1 [97] 9 = (⟨[97], [], 2, false⟩, true, 0) := by rw [find_made three_made (by decide) (by decide)]; rfl
theorem n_find2 : findT (makeT threeE).1 [97] 0 = (page.zeroE, false, 0) := by rw [find_made three_made (by decide) (by decide)]; rfl
theorem n_find3 : findT (makeT threeE).1 [98] 3 = (⟨[98], [], 3, true⟩, true, 0) := by rw [find_made three_made (by decide) (by decide)]; rfl
theorem n_find4 : findT (makeT threeE).1 [] 1 = (page.zeroE, false, 60) := findT_key three_open (.inl rfl)
theorem n_find5 : findT (makeT threeE).1 [97] (-1) = (page.zeroE, false, 2) := findT_seq three_open (by decide) (.inl (by decide))
theorem n_range1 : rangeT (makeT threeE).1 [97] [98] = ([⟨[97], [], 2, false⟩, ⟨[97], [], 1, false⟩], 0) := by rw [open_rng three_made _ _ (by decide)]; rfl
theorem n_range2 : rangeT (makeT threeE).1 [98] [] = ([⟨[98], [], 3, true⟩], 0) := by rw [open_rng three_made _ _ (by decide)]; rfl
theorem n_ends : endsT (makeT threeE).1 = ([97], [98], 0) := by unfold endsT; rw [three_open, three_part]; rfl
theorem n_pages : pagesT (makeT threeE).1 = (1, 0) := by unfold pagesT; rw [three_open, three_part]; rfl
theorem n_nil : makeT [] = ([], 90) := by unfold makeT; rfl
theorem n_check : checkT [] = 90 := by unfold checkT; rw [open_bad1 (fun ho => by have := ho.1; simp at this)]
end table
set_option maxHeartbeats 1000000 in
theorem TableNames_fn {w : World} : Fn Try.prog 9 [] w (fun r w2 => r = .bool true ∧ Ext (fun _ => False) w w2) := by
  refine Fn.enter (fun w => Try.call9 _ w) Try.func9 rfl ?_
  refine .seq (.region ?_)
  refine .p rfl rfl (.as rfl) ?_
  refine .nil (.code (.seq (.keep [] trivial (.region ?_))))
  refine .call (first := []) (captured := []) rfl rfl rfl rfl (three_fn) ?_
  rintro r30 w30 ⟨R30, X30⟩
  refine .call (first := []) (captured := []) rfl rfl rfl rfl (TMake_fn R30) ?_
  rintro _ w31 ⟨v31, rfl, G31, X31⟩
  refine .p rfl rfl (.mv rfl) ?_
  refine .p rfl rfl (.extract rfl rfl) ?_
  refine .p rfl rfl (.extract rfl rfl) ?_
  refine .p rfl rfl (.as rfl) ?_
  refine .p rfl rfl (.as rfl) ?_
  refine .nil (.code (.seq (.keep [(1, _)] ⟨rfl, trivial⟩ (.region ?_))))
  refine .p rfl rfl (.mv rfl) ?_
  refine .call (first := []) (captured := []) rfl rfl rfl rfl (TFind_fn (key := [97]) (seq := 9) (Gr.rep (Gr.ext0 G31 (by repeat (first | exact Ext.refl _ | assumption | refine Ext.trans (by assumption) ?_)))) (by decide)) ?_
  rintro _ w36 ⟨rfl, X36⟩
  rw [n_find1]
  refine .p rfl rfl (.mv rfl) ?_
  refine .p rfl rfl (.extract rfl rfl) ?_
  refine .p rfl rfl (.extract rfl rfl) ?_
  refine .p rfl rfl (.extract rfl rfl) ?_
  refine .v rfl rfl (.alloc rfl rfl) ?_
  rintro _ w3a ⟨rfl, N3⟩
  refine .s rfl (.storeAll (n := 4) rfl rfl rfl rfl rfl N3.blk rfl) ?_
  intro w3b P3
  have X3b := N3.ext.then P3.ext (by rintro k rfl _; exact Nat.le_refl _)
  have B3 := P3.blk
  clear P3 N3
  refine .p rfl rfl (.as rfl) ?_
  refine .p rfl rfl (.as rfl) ?_
  refine .nil (.code (.seq (.keep [(4, _), (3, _), (1, _)] ⟨rfl, rfl, rfl, trivial⟩ (.region ?_))))
  refine .p rfl rfl (.mv rfl) ?_
  refine .call (first := []) (captured := []) rfl rfl rfl rfl (TFind_fn (key := [97]) (seq := 0) (Gr.rep (Gr.ext0 G31 (by repeat (first | exact Ext.refl _ | assumption | refine Ext.trans (by assumption) ?_)))) (by decide)) ?_
  rintro _ w42 ⟨rfl, X42⟩
  rw [n_find2]
  refine .p rfl rfl (.mv rfl) ?_
  refine .p rfl rfl (.extract rfl rfl) ?_
  refine .p rfl rfl (.extract rfl rfl) ?_
  refine .p rfl rfl (.extract rfl rfl) ?_
  refine .v rfl rfl (.alloc rfl rfl) ?_
  rintro _ w6a ⟨rfl, N6⟩
  refine .s rfl (.storeAll (n := 4) rfl rfl rfl rfl rfl N6.blk rfl) ?_
  intro w6b P6
  have X6b := N6.ext.then P6.ext (by rintro k rfl _; exact Nat.le_refl _)
  have B6 := P6.blk
  clear P6 N6
  refine .p rfl rfl (.as rfl) ?_
  refine .p rfl rfl (.as rfl) ?_
  refine .nil (.code (.seq (.keep [(7, _), (4, _), (3, _), (1, _)] ⟨rfl, rfl, rfl, rfl, trivial⟩ (.region ?_))))
  refine .p rfl rfl (.mv rfl) ?_
  refine .call (first := []) (captured := []) rfl rfl rfl rfl (TFind_fn (key := [98]) (seq := 3) (Gr.rep (Gr.ext0 G31 (by repeat (first | exact Ext.refl _ | assumption | refine Ext.trans (by assumption) ?_)))) (by decide)) ?_
  rintro _ w48 ⟨rfl, X48⟩
  rw [n_find3]
  refine .p rfl rfl (.mv rfl) ?_
  refine .p rfl rfl (.extract rfl rfl) ?_
  refine .p rfl rfl (.extract rfl rfl) ?_
  refine .p rfl rfl (.extract rfl rfl) ?_
  refine .v rfl rfl (.alloc rfl rfl) ?_
  rintro _ w9a ⟨rfl, N9⟩
  refine .s rfl (.storeAll (n := 4) rfl rfl rfl rfl rfl N9.blk rfl) ?_
  intro w9b P9
  have X9b := N9.ext.then P9.ext (by rintro k rfl _; exact Nat.le_refl _)
  have B9 := P9.blk
  clear P9 N9
  refine .p rfl rfl (.as rfl) ?_
  refine .p rfl rfl (.as rfl) ?_
  refine .nil (.code (.seq (.keep [(10, _), (9, _), (7, _), (4, _), (3, _), (1, _)] ⟨rfl, rfl, rfl, rfl, rfl, rfl, trivial⟩ (.region ?_))))
  refine .p rfl rfl (.mv rfl) ?_
  refine .call (first := []) (captured := []) rfl rfl rfl rfl (TRange_fn (lo := [97]) (hi := [98]) (Gr.rep (Gr.ext0 G31 (by repeat (first | exact Ext.refl _ | assumption | refine Ext.trans (by assumption) ?_))))) ?_
  rintro _ w54 ⟨v54, rfl, O54, X54⟩
  rw [n_range1] at O54
  rw [n_range1]
  obtain ⟨a54, c54, rfl, hc54⟩ := OwnO.val O54
  refine .p rfl rfl (.mv rfl) ?_
  refine .p rfl rfl (.extract rfl rfl) ?_
  refine .p rfl rfl (.extract rfl rfl) ?_
  refine .p rfl rfl (.as rfl) ?_
  refine .p rfl rfl (.as rfl) ?_
  refine .nil (.code (.seq (.keep [(12, _), (10, _), (9, _), (7, _), (4, _), (3, _), (1, _)] ⟨rfl, rfl, rfl, rfl, rfl, rfl, rfl, trivial⟩ (.region ?_))))
  refine .p rfl rfl (.mv rfl) ?_
  refine .call (first := []) (captured := []) rfl rfl rfl rfl (TRange_fn (lo := [98]) (hi := []) (Gr.rep (Gr.ext0 G31 (by repeat (first | exact Ext.refl _ | assumption | refine Ext.trans (by assumption) ?_))))) ?_
  rintro _ w59 ⟨v59, rfl, O59, X59⟩
  rw [n_range2] at O59
  rw [n_range2]
  obtain ⟨a59, c59, rfl, hc59⟩ := OwnO.val O59
  refine .p rfl rfl (.mv rfl) ?_
  refine .p rfl rfl (.extract rfl rfl) ?_
  refine .p rfl rfl (.extract rfl rfl) ?_
  refine .p rfl rfl (.as rfl) ?_
  refine .p rfl rfl (.as rfl) ?_
  refine .nil (.code (.seq (.keep [(14, _), (12, _), (10, _), (9, _), (7, _), (4, _), (3, _), (1, _)] ⟨rfl, rfl, rfl, rfl, rfl, rfl, rfl, rfl, trivial⟩ (.region ?_))))
  refine .p rfl rfl (.mv rfl) ?_
  refine .call (first := []) (captured := []) rfl rfl rfl rfl (TEnds_fn (Gr.rep (Gr.ext0 G31 (by repeat (first | exact Ext.refl _ | assumption | refine Ext.trans (by assumption) ?_))))) ?_
  rintro _ w64 ⟨rfl, X64⟩
  rw [n_ends]
  refine .p rfl rfl (.mv rfl) ?_
  refine .p rfl rfl (.extract rfl rfl) ?_
  refine .p rfl rfl (.extract rfl rfl) ?_
  refine .p rfl rfl (.extract rfl rfl) ?_
  refine .p rfl rfl (.as rfl) ?_
  refine .p rfl rfl (.as rfl) ?_
  refine .p rfl rfl (.as rfl) ?_
  refine .nil (.code (.seq (.keep [(18, _), (17, _), (16, _), (14, _), (12, _), (10, _), (9, _), (7, _), (4, _), (3, _), (1, _)] ⟨rfl, rfl, rfl, rfl, rfl, rfl, rfl, rfl, rfl, rfl, rfl, trivial⟩ (.region ?_))))
  refine .p rfl rfl (.mv rfl) ?_
  refine .call (first := []) (captured := []) rfl rfl rfl rfl (TPages_fn (Gr.rep (Gr.ext0 G31 (by repeat (first | exact Ext.refl _ | assumption | refine Ext.trans (by assumption) ?_))))) ?_
  rintro _ w70 ⟨rfl, X70⟩
  rw [n_pages]
  refine .p rfl rfl (.mv rfl) ?_
  refine .p rfl rfl (.extract rfl rfl) ?_
  refine .p rfl rfl (.extract rfl rfl) ?_
  refine .p rfl rfl (.as rfl) ?_
  refine .p rfl rfl (.as rfl) ?_
  refine .nil (.code (.seq (.keep [(20, _), (19, _), (18, _), (17, _), (16, _), (14, _), (12, _), (10, _), (9, _), (7, _), (4, _), (3, _), (1, _)] ⟨rfl, rfl, rfl, rfl, rfl, rfl, rfl, rfl, rfl, rfl, rfl, rfl, rfl, trivial⟩ (.region ?_))))
  refine .call (first := []) (captured := []) rfl rfl rfl rfl (TMake_fn (l := []) Sl.nil) ?_
  rintro _ w74 ⟨v74, rfl, G74, X74⟩
  rw [n_nil]
  refine .p rfl rfl (.mv rfl) ?_
  refine .p rfl rfl (.extract rfl rfl) ?_
  refine .p rfl rfl (.extract rfl rfl) ?_
  refine .p rfl rfl (.as rfl) ?_
  refine .p rfl rfl (.as rfl) ?_
  refine .nil (.code (.seq (.keep [(22, _), (20, _), (19, _), (18, _), (17, _), (16, _), (14, _), (12, _), (10, _), (9, _), (7, _), (4, _), (3, _), (1, _)] ⟨rfl, rfl, rfl, rfl, rfl, rfl, rfl, rfl, rfl, rfl, rfl, rfl, rfl, rfl, trivial⟩ (.region ?_))))
  refine .p rfl rfl (.mv rfl) ?_
  refine .call (first := []) (captured := []) rfl rfl rfl rfl (TFind_fn (key := []) (seq := 1) (Gr.rep (Gr.ext0 G31 (by repeat (first | exact Ext.refl _ | assumption | refine Ext.trans (by assumption) ?_)))) (by decide)) ?_
  rintro _ w79 ⟨rfl, X79⟩
  rw [n_find4]
  refine .p rfl rfl (.mv rfl) ?_
  refine .p rfl rfl (.extract rfl rfl) ?_
  refine .p rfl rfl (.extract rfl rfl) ?_
  refine .p rfl rfl (.extract rfl rfl) ?_
  refine .v rfl rfl (.alloc rfl rfl) ?_
  rintro _ w23a ⟨rfl, N23⟩
  refine .s rfl (.storeAll (n := 4) rfl rfl rfl rfl rfl N23.blk rfl) ?_
  intro w23b P23
  have X23b := N23.ext.then P23.ext (by rintro k rfl _; exact Nat.le_refl _)
  have B23 := P23.blk
  clear P23 N23
  refine .p rfl rfl (.as rfl) ?_
  refine .p rfl rfl (.as rfl) ?_
  refine .nil (.code (.seq (.keep [(25, _), (22, _), (20, _), (19, _), (18, _), (17, _), (16, _), (14, _), (12, _), (10, _), (9, _), (7, _), (4, _), (3, _), (1, _)] ⟨rfl, rfl, rfl, rfl, rfl, rfl, rfl, rfl, rfl, rfl, rfl, rfl, rfl, rfl, rfl, trivial⟩ (.region ?_))))
  refine .p rfl rfl (.mv rfl) ?_
  refine .call (first := []) (captured := []) rfl rfl rfl rfl (TFind_fn (key := [97]) (seq := (-1)) (Gr.rep (Gr.ext0 G31 (by repeat (first | exact Ext.refl _ | assumption | refine Ext.trans (by assumption) ?_)))) (by decide)) ?_
  rintro _ w85 ⟨rfl, X85⟩
  rw [n_find5]
  refine .p rfl rfl (.mv rfl) ?_
  refine .p rfl rfl (.extract rfl rfl) ?_
  refine .p rfl rfl (.extract rfl rfl) ?_
  refine .p rfl rfl (.extract rfl rfl) ?_
  refine .v rfl rfl (.alloc rfl rfl) ?_
  rintro _ w26a ⟨rfl, N26⟩
  refine .s rfl (.storeAll (n := 4) rfl rfl rfl rfl rfl N26.blk rfl) ?_
  intro w26b P26
  have X26b := N26.ext.then P26.ext (by rintro k rfl _; exact Nat.le_refl _)
  have B26 := P26.blk
  clear P26 N26
  refine .p rfl rfl (.as rfl) ?_
  refine .p rfl rfl (.as rfl) ?_
  refine .nil (.code (.seq (.keep [(28, _), (25, _), (22, _), (20, _), (19, _), (18, _), (17, _), (16, _), (14, _), (12, _), (10, _), (9, _), (7, _), (4, _), (3, _)] ⟨rfl, rfl, rfl, rfl, rfl, rfl, rfl, rfl, rfl, rfl, rfl, rfl, rfl, rfl, rfl, trivial⟩ (.region ?_))))
  refine .p rfl rfl (.mv rfl) ?_
  refine .call (first := []) (captured := []) rfl rfl rfl rfl (alive9_fn) ?_
  rintro _ w90 ⟨rfl, X90⟩
  refine .p rfl rfl (.pickT rfl rfl) ?_
  refine .p rfl rfl (.mv rfl) ?_
  refine .p rfl rfl (.mv rfl) ?_
  refine .p rfl rfl (.pickT rfl rfl) ?_
  refine .p rfl rfl (.mv rfl) ?_
  refine .p rfl rfl (.fieldAddr rfl rfl rfl rfl) ?_
  refine .p rfl rfl (.load rfl rfl rfl ((B3.ext (S := fun _ => False) (by repeat (first | exact Ext.refl _ | assumption | refine Ext.trans (by assumption) ?_)) (fun x => x)).cell 2)) ?_
  refine .p rfl rfl (.yes (.eq rfl rfl) (rfl)) ?_
  refine .p rfl rfl (.pickT rfl rfl) ?_
  refine .p rfl rfl (.mv rfl) ?_
  refine .p rfl rfl (.mv rfl) ?_
  refine .p rfl rfl (.not rfl) ?_
  refine .p rfl rfl (.pickT rfl rfl) ?_
  refine .p rfl rfl (.mv rfl) ?_
  refine .p rfl rfl (.mv rfl) ?_
  refine .p rfl rfl (.pickT rfl rfl) ?_
  refine .p rfl rfl (.mv rfl) ?_
  refine .p rfl rfl (.fieldAddr rfl rfl rfl rfl) ?_
  refine .p rfl rfl (.load rfl rfl rfl ((B9.ext (S := fun _ => False) (by repeat (first | exact Ext.refl _ | assumption | refine Ext.trans (by assumption) ?_)) (fun x => x)).cell 3)) ?_
  refine .p rfl rfl (.pickT rfl rfl) ?_
  refine .p rfl rfl (.mv rfl) ?_
  refine .p rfl rfl (.mv rfl) ?_
  refine .p rfl rfl (.len rfl rfl) ?_
  refine .p rfl rfl (.yes (.eq rfl rfl) (rfl)) ?_
  refine .p rfl rfl (.pickT rfl rfl) ?_
  refine .p rfl rfl (.mv rfl) ?_
  obtain ⟨bx54, ox54, cx54, uex54, ex54, _, hcsx54, hrex54⟩ := Sl.at (OwnO.rep (OwnO.ext0 (w' := w90) O54 (by repeat (first | exact Ext.refl _ | assumption | refine Ext.trans (by assumption) ?_))) (fun _ _ _ => trivial) (fun _ h _ => h.elim)) (i := 1) (x := ⟨[97], [], 1, false⟩) rfl
  injection ex54 with ea54 _ _
  subst ea54
  obtain ⟨rfl, _⟩ := tEntry.val hrex54
  refine .p rfl rfl (.mv rfl) ?_
  refine .p rfl rfl (.indexAddr (s := 4) rfl rfl rfl rfl (by show (0 : Int) ≤ 1 ∧ (1 : Int) < ((2 : Nat) : Int); omega)) ?_
  refine .p rfl rfl (.fieldAddr rfl rfl rfl rfl) ?_
  refine .p rfl rfl (.load rfl rfl rfl (hcsx54 2 _ rfl)) ?_
  refine .p rfl rfl (.yes (.eq rfl rfl) (rfl)) ?_
  refine .p rfl rfl (.pickT rfl rfl) ?_
  refine .p rfl rfl (.mv rfl) ?_
  refine .p rfl rfl (.mv rfl) ?_
  refine .p rfl rfl (.len rfl rfl) ?_
  refine .p rfl rfl (.yes (.eq rfl rfl) (rfl)) ?_
  refine .p rfl rfl (.pickT rfl rfl) ?_
  refine .p rfl rfl (.mv rfl) ?_
  obtain ⟨bx59, ox59, cx59, uex59, ex59, _, hcsx59, hrex59⟩ := Sl.at (OwnO.rep (OwnO.ext0 (w' := w90) O59 (by repeat (first | exact Ext.refl _ | assumption | refine Ext.trans (by assumption) ?_))) (fun _ _ _ => trivial) (fun _ h _ => h.elim)) (i := 0) (x := ⟨[98], [], 3, true⟩) rfl
  injection ex59 with ea59 _ _
  subst ea59
  obtain ⟨rfl, _⟩ := tEntry.val hrex59
  refine .p rfl rfl (.mv rfl) ?_
  refine .p rfl rfl (.indexAddr (s := 4) rfl rfl rfl rfl (by show (0 : Int) ≤ 0 ∧ (0 : Int) < ((1 : Nat) : Int); omega)) ?_
  refine .p rfl rfl (.fieldAddr rfl rfl rfl rfl) ?_
  refine .p rfl rfl (.load rfl rfl rfl (hcsx59 0 _ rfl)) ?_
  refine .p rfl rfl (.yes (.eqS rfl rfl) (rfl)) ?_
  refine .p rfl rfl (.pickT rfl rfl) ?_
  refine .p rfl rfl (.mv rfl) ?_
  refine .p rfl rfl (.mv rfl) ?_
  refine .p rfl rfl (.yes (.eqS rfl rfl) (rfl)) ?_
  refine .p rfl rfl (.pickT rfl rfl) ?_
  refine .p rfl rfl (.mv rfl) ?_
  refine .p rfl rfl (.mv rfl) ?_
  refine .p rfl rfl (.yes (.eqS rfl rfl) (rfl)) ?_
  refine .p rfl rfl (.pickT rfl rfl) ?_
  refine .p rfl rfl (.mv rfl) ?_
  refine .p rfl rfl (.mv rfl) ?_
  refine .p rfl rfl (.yes (.eq rfl rfl) (rfl)) ?_
  refine .p rfl rfl (.pickT rfl rfl) ?_
  refine .p rfl rfl (.mv rfl) ?_
  refine .p rfl rfl (.mv rfl) ?_
  refine .p rfl rfl (.yes (.eq rfl rfl) (rfl)) ?_
  refine .p rfl rfl (.pickT rfl rfl) ?_
  refine .p rfl rfl (.mv rfl) ?_
  refine .p rfl rfl (.mv rfl) ?_
  refine .p rfl rfl (.yes (.eq rfl rfl) (rfl)) ?_
  refine .p rfl rfl (.pickT rfl rfl) ?_
  refine .p rfl rfl (.mv rfl) ?_
  refine .p rfl rfl (.mv rfl) ?_
  refine .p rfl rfl (.yes (.eq rfl rfl) (rfl)) ?_
  refine .p rfl rfl (.pickT rfl rfl) ?_
  refine .p rfl rfl (.mv rfl) ?_
  refine .call (first := []) (captured := []) rfl rfl rfl rfl (TCheck_fn (b := []) Sl.nil) ?_
  rintro _ w160 ⟨rfl, X160⟩
  rw [n_check]
  refine .p rfl rfl (.yes (.eq rfl rfl) (rfl)) ?_
  refine .p rfl rfl (.pickT rfl rfl) ?_
  refine .p rfl rfl (.mv rfl) ?_
  refine .p rfl rfl (.mv rfl) ?_
  refine .p rfl rfl (.yes (.eq rfl rfl) (rfl)) ?_
  refine .p rfl rfl (.pickT rfl rfl) ?_
  refine .p rfl rfl (.mv rfl) ?_
  refine .p rfl rfl (.mv rfl) ?_
  refine .p rfl rfl (.yes (.eq rfl rfl) (rfl)) ?_
  refine .p rfl rfl (.pickT rfl rfl) ?_
  refine .p rfl rfl (.as rfl) ?_
  refine .nil (.code ?_)
  refine .ret _ rfl ?_
  exact ⟨rfl, (by repeat (first | exact Ext.refl _ | assumption | refine Ext.trans (by assumption) ?_))⟩
end Go.Proofs.Ythkgadhamecnlaa
