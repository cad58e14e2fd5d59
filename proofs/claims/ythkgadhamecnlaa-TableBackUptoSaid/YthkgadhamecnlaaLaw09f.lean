
/-
  TableBack: walked.
-/
import Derived.Test.YthkgadhamecnlaaLaw09b
import Derived.Test.YthkgadhamecnlaaTabRange
import Derived.Test.YthkgadhamecnlaaEntEq
set_option linter.unusedVariables false
set_option linter.unusedSimpArgs false
set_option maxRecDepth 20000
namespace Go.Proofs.Ythkgadhamecnlaa
open Go page table
namespace table
theorem bless_nil (a : Bs) : Op.bytesLess a [] = false := by
  rw [bytesLess_eq]
  cases a with
  | nil => rfl
  | cons x a => rfl
theorem out_all (x : Entry) : outK [] [] x = false := by unfold outK; rw [bless_nil]; rfl
theorem range_some {b lo hi : Bs} {rows : List Row} (h : openF b = some rows) (hl : ¬ (256 < lo.length ∨ 256 < hi.length)) : rangeT b lo hi = ((entsR rows).filter (fun x => !outK lo hi x), 0) := by unfold rangeT; rw [h]; simp only; rw [if_neg hl]
theorem range_none {b lo hi : Bs} (h : openF b = none) : rangeT b lo hi = ([], 90) := by unfold rangeT; rw [h]
theorem filter_all (l : List Entry) : l.filter (fun x => !outK [] [] x) = l := List.filter_eq_self.2 (fun x _ => by rw [out_all]; rfl)
theorem open_rng {l : List Entry} (h : (makeT l).2 = 0) (lo hi : Bs) (hl : ¬ (256 < lo.length ∨ 256 < hi.length)) : rangeT (makeT l).1 lo hi = (l.filter (fun x => !outK lo hi x), 0) := by
  rw [range_some (open_back (Prod.ext rfl h)) hl, ents_rows, part_flat]
theorem all_made {l : List Entry} (h : (makeT l).2 = 0) : rangeT (makeT l).1 [] [] = (l, 0) := by
  rw [open_rng h _ _ (by simp), filter_all]
theorem all_bad {b : Bs} (h : ¬ (rangeT b [] []).2 = 0) : rangeT b [] [] = ([], 90) := by
  cases ho : openF b with
  | none => exact range_none ho
  | some rows => rw [range_some ho (by simp)] at h; exact absurd rfl h
theorem all_good {b : Bs} (h : (rangeT b [] []).2 = 0) : makeT (rangeT b [] []).1 = (b, 0) := by
  cases ho : openF b with
  | none => rw [range_none ho] at h; cases h
  | some rows => rw [range_some ho (by simp), filter_all]; exact open_made ho
end table
theorem Same9_fn {w : World} {v u : Value} {l m : List Entry} (hl : (Sl tEntry).rep All w v l) (hm : (Sl tEntry).rep All w u m) : Fn Try.prog 23 [v, u] w (fun r w2 => r = .bool (decide (l = m)) ∧ Ext (fun _ => False) w w2) := by
  obtain ⟨a, cap, rfl, hcap⟩ := Sl.val hl
  obtain ⟨a2, cap2, rfl, hcap2⟩ := Sl.val hm
  have hlim := Sl.lim hl
  have hlim2 := Sl.lim hm
  simp only [Lim] at hlim hlim2
  refine Fn.enter (fun w => Try.call23 _ w) Try.func23 rfl ?_
  refine .seq (.region ?_)
  refine .p rfl rfl (.as rfl) ?_
  refine .nil (.code (.seq (.seq (.keep [(0, _), (1, _)] ⟨rfl, rfl, trivial⟩ (.region ?_)))))
  refine .p rfl rfl (.mv rfl) ?_
  refine .p rfl rfl (.len rfl rfl) ?_
  refine .p rfl rfl (.mv rfl) ?_
  refine .p rfl rfl (.len rfl rfl) ?_
  refine .p rfl rfl (.ne rfl rfl) ?_
  refine .nil (.code (.keep [(10, _), (0, _), (1, _)] ⟨rfl, rfl, rfl, trivial⟩ ?_))
  refine .condD rfl (fun c10 => ?_) (fun c10 => ?_)
  · refine .seq (.keep [] trivial (.region ?_))
    refine .p rfl rfl (.as rfl) ?_
    refine .nil (.code ?_)
    refine .ret _ rfl ?_
    exact ⟨by rw [decide_eq_false (fun h => by rw [h] at c10; exact c10 rfl)]; rfl, .refl _⟩
  · refine .skip (.code (.seq (.seq (.keep [(0, _), (1, _)] ⟨rfl, rfl, trivial⟩ (.region ?_)))))
    refine .p rfl rfl (.as rfl) ?_
    refine .nil (.code (.block ?_))
    have hlen : l.length = m.length := by omega
    refine .loop (S := Nat) (fun s => [(0, .slice a l.length cap), (1, .slice a2 m.length cap2), (5, i64 s)]) (fun s => w) (fun s => s ≤ l.length ∧ l.take s = m.take s) (fun s => l.length - s) 0 ⟨rfl, rfl, rfl, trivial⟩ rfl ⟨Nat.zero_le _, rfl⟩ ?_
    rintro i J ⟨hi', htk⟩ again
    refine .seq (.seq (.region ?_))
    refine .p rfl rfl (.mv rfl) ?_
    refine .p rfl rfl (.mv rfl) ?_
    refine .p rfl rfl (.len rfl rfl) ?_
    refine .p rfl rfl (.lt rfl rfl) ?_
    refine .nil (.code (.keep [(14, _), (0, _), (1, _), (5, _)] ⟨rfl, rfl, rfl, rfl, trivial⟩ ?_))
    refine .condD rfl (fun c14 => ?_) (fun c14 => ?_)
    · have hi : i < l.length := by omega
      have him : i < m.length := by omega
      obtain ⟨b0, o0, c0, ue, e, _, hcs, hre⟩ := Sl.at hl (List.getElem?_eq_getElem hi)
      cases e
      obtain ⟨rfl, h1, h2, h3⟩ := tEntry.val hre
      obtain ⟨b1, o1, c1, ue1, e1, _, hcm, hrm⟩ := Sl.at hm (List.getElem?_eq_getElem him)
      cases e1
      obtain ⟨rfl, g1, g2, g3⟩ := tEntry.val hrm
      refine .skip (.code (.seq (.block (.seq (.keep [(0, _), (1, _), (5, _)] ⟨rfl, rfl, rfl, trivial⟩ (.draws (by kernel_rfl) (by kernel_rfl) ?_))))))
      refine .p rfl rfl (.mv rfl) ?_
      refine .p rfl rfl (.mv rfl) ?_
      refine .p rfl rfl (.indexAddr (s := 4) rfl rfl rfl rfl (by omega)) ?_
      refine .p rfl rfl (.loadA (n := 4) rfl rfl rfl rfl rfl hcs) ?_
      refine .p rfl rfl (.mv rfl) ?_
      refine .p rfl rfl (.mv rfl) ?_
      refine .p rfl rfl (.indexAddr (s := 4) rfl rfl rfl rfl (by omega)) ?_
      refine .p rfl rfl (.loadA (n := 4) rfl rfl rfl rfl rfl hcm) ?_
      refine .p rfl rfl (.neA (xs := [_, _, _, _]) (ys := [_, _, _, _]) rfl rfl (by kernel_rfl) (entry_eq l[i] m[i])) ?_
      refine .nil (.code (.keep [(25, _), (0, _), (1, _), (5, _)] ⟨rfl, rfl, rfl, rfl, trivial⟩ ?_))
      refine .cond rfl (fun c25 => ?_) (fun c25 => ?_)
      · refine .seq (.keep [] trivial (.region ?_))
        refine .p rfl rfl (.as rfl) ?_
        refine .nil (.code ?_)
        refine .ret _ rfl ?_
        exact ⟨by rw [decide_eq_false (fun h => by subst h; simp at c25)]; rfl, .refl _⟩
      · refine .skip (.blk (.code (.keep [(0, _), (1, _), (5, _)] ⟨rfl, rfl, rfl, trivial⟩ (.region ?_))))
        refine .p rfl rfl (.mv rfl) ?_
        refine .p rfl rfl (.add rfl rfl (by omega)) ?_
        refine .p rfl rfl (.as rfl) ?_
        refine .nil ?_
        exact (again (i + 1) ⟨by show i + 1 ≤ _; omega, by show l.take (i + 1) = m.take (i + 1); rw [List.take_succ_eq_append_getElem hi, List.take_succ_eq_append_getElem him, htk, show l[i] = m[i] by simpa using c25]⟩ (by show _ - (i + 1) < _ - i; omega)).of ⟨rfl, rfl, rfl, trivial⟩
    · refine .exit rfl (.code (.seq (.keep [] trivial (.region ?_))))
      refine .p rfl rfl (.as rfl) ?_
      refine .nil (.code ?_)
      refine .ret _ rfl ?_
      obtain rfl : i = l.length := by omega
      exact ⟨by rw [decide_eq_true (by rw [List.take_length, hlen, List.take_length] at htk; exact htk)]; rfl, .refl _⟩
theorem Same9T_fn {w : World} {v u : Value} {l : List Entry} (hl : (Sl tEntry).rep All w v l) (hm : (Sl tEntry).rep All w u l) : Fn Try.prog 23 [v, u] w (fun r w2 => r = .bool true ∧ Ext (fun _ => False) w w2) :=
  (Same9_fn hl hm).mono fun r w2 ⟨h1, h2⟩ => ⟨h1.trans (by rw [decide_eq_true rfl]), h2⟩
theorem TableBack_fn {w : World} {v u : Value} {l : List Entry} {b : Bs} (h : (Sl tEntry).rep All w v l) (hb : l.length ≤ 1048576) (hu : tBytes.rep All w u b) : Fn Try.prog 8 [v, u] w (fun r w2 => r = .bool true ∧ Ext (fun _ => False) w w2) := by
  obtain ⟨a, cap, rfl, hcap⟩ := Sl.val h
  obtain ⟨a1, c1, rfl, hc1⟩ := Sl.val hu
  refine Fn.enter (fun w => Try.call8 _ w) Try.func8 rfl ?_
  refine .seq (.region ?_)
  refine .p rfl rfl (.as rfl) ?_
  refine .nil (.code (.seq (.keep [(0, _), (1, _)] ⟨rfl, rfl, trivial⟩ (.region ?_))))
  refine .call (first := []) (captured := []) rfl rfl rfl rfl (alive9_fn) ?_
  rintro _ w14 ⟨rfl, X14⟩
  refine .p rfl rfl (.as rfl) ?_
  refine .nil (.code (.seq (.seq (.keep [(5, _), (0, _), (1, _)] ⟨rfl, rfl, rfl, trivial⟩ (.region ?_)))))
  refine .p rfl rfl (.mv rfl) ?_
  refine .p rfl rfl (.not rfl) ?_
  refine .nil (.code (.keep [(16, _), (5, _), (0, _), (1, _)] ⟨rfl, rfl, rfl, rfl, trivial⟩ (.condF rfl (.skip (.code (.seq (.seq (.keep [(5, _), (0, _), (1, _)] ⟨rfl, rfl, rfl, trivial⟩ (.region ?_)))))))))
  refine .p rfl rfl (.mv rfl) ?_
  refine .call (first := []) (captured := []) rfl rfl rfl rfl (hvy_fn ((Sl tEntry).ext0 h X14) hb) ?_
  rintro _ w18 ⟨⟨q, rfl⟩, X18⟩
  refine .p rfl rfl (.mv rfl) ?_
  refine .case 19 rfl (fun c19 => ?_) (fun c19 => ?_)
  · refine .skip rfl rfl ?_
    refine .skip rfl rfl ?_
    refine .skip rfl rfl ?_
    refine .p rfl rfl (.pickT rfl rfl) ?_
    refine .nil (.code (.keep [(23, _), (5, _), (0, _), (1, _)] ⟨rfl, rfl, rfl, rfl, trivial⟩ (.condT rfl (.seq (.keep [(5, _)] ⟨rfl, trivial⟩ (.region ?_))))))
    refine .p rfl rfl (.mv rfl) ?_
    refine .p rfl rfl (.as rfl) ?_
    refine .nil (.code ?_)
    refine .ret _ rfl ?_
    exact ⟨rfl, (by repeat (first | exact Ext.refl _ | assumption | refine Ext.trans (by assumption) ?_))⟩
  · refine .p rfl rfl (.mv rfl) ?_
    refine .p rfl rfl (.len rfl rfl) ?_
    refine .p rfl rfl (.gt rfl rfl) ?_
    refine .p rfl rfl (.pickF rfl rfl) ?_
    refine .nil (.code (.keep [(23, _), (5, _), (0, _), (1, _)] ⟨rfl, rfl, rfl, rfl, trivial⟩ ?_))
    refine .condD rfl (fun c23 => ?_) (fun c23 => ?_)
    · refine .seq (.keep [(5, _)] ⟨rfl, trivial⟩ (.region ?_))
      refine .p rfl rfl (.mv rfl) ?_
      refine .p rfl rfl (.as rfl) ?_
      refine .nil (.code ?_)
      refine .ret _ rfl ?_
      exact ⟨rfl, (by repeat (first | exact Ext.refl _ | assumption | refine Ext.trans (by assumption) ?_))⟩
    · refine .skip (.code (.seq (.keep [(5, _), (0, _), (1, _)] ⟨rfl, rfl, rfl, trivial⟩ (.region ?_))))
      refine .p rfl rfl (.mv rfl) ?_
      refine .call (first := []) (captured := []) rfl rfl rfl rfl (TMake_fn ((Sl tEntry).ext0 h (by repeat (first | exact Ext.refl _ | assumption | refine Ext.trans (by assumption) ?_)))) ?_
      rintro _ w27 ⟨v27, rfl, G27, X27⟩
      have Z27 := (X14.trans X18).trans X27
      refine .p rfl rfl (.mv rfl) ?_
      refine .p rfl rfl (.extract rfl rfl) ?_
      refine .p rfl rfl (.extract rfl rfl) ?_
      refine .p rfl rfl (.as rfl) ?_
      refine .p rfl rfl (.as rfl) ?_
      refine .nil (.code (.seq (.seq (.keep [(7, _), (6, _), (5, _), (0, _), (1, _)] ⟨rfl, rfl, rfl, rfl, rfl, trivial⟩ (.region ?_)))))
      refine .p rfl rfl (.mv rfl) ?_
      refine .p rfl rfl (.eq rfl rfl) ?_
      refine .nil (.code (.keep [(31, _), (6, _), (5, _), (0, _), (1, _)] ⟨rfl, rfl, rfl, rfl, rfl, trivial⟩ ?_))
      refine .meet (S := World) (fun s => [(1, .slice a1 b.length c1), (5, .bool true)]) (fun s => s) (fun s => Ext (fun _ => False) w s) ?_ ?_
      · intro wm hXm
        refine .code (.seq (.region ?_))
        refine .p rfl rfl (.mv rfl) ?_
        refine .call (first := []) (captured := []) rfl rfl rfl rfl (TAll_fn (tBytes.ext0 hu hXm)) ?_
        rintro _ w52 ⟨v52, rfl, O52, X52⟩
        obtain ⟨a52, c52, rfl, hc52⟩ := OwnO.val O52
        refine .p rfl rfl (.mv rfl) ?_
        refine .p rfl rfl (.extract rfl rfl) ?_
        refine .p rfl rfl (.extract rfl rfl) ?_
        refine .p rfl rfl (.as rfl) ?_
        refine .p rfl rfl (.as rfl) ?_
        refine .nil (.code (.seq (.seq (.keep [(11, _), (10, _), (1, _), (5, _)] ⟨rfl, rfl, rfl, rfl, trivial⟩ (.region ?_)))))
        refine .p rfl rfl (.mv rfl) ?_
        refine .p rfl rfl (.ne rfl rfl) ?_
        refine .nil (.code (.keep [(56, _), (11, _), (10, _), (1, _), (5, _)] ⟨rfl, rfl, rfl, rfl, rfl, trivial⟩ ?_))
        refine .condD rfl (fun c56 => ?_) (fun c56 => ?_)
        · refine .seq (.keep [(11, _), (10, _), (5, _)] ⟨rfl, rfl, rfl, trivial⟩ (.region ?_))
          refine .p rfl rfl (.mv rfl) ?_
          refine .p rfl rfl (.mv rfl) ?_
          refine .p rfl rfl (.mv rfl) ?_
          refine .p rfl rfl (.yes (.eq rfl rfl) (by rw [all_bad c56])) ?_
          refine .p rfl rfl (.pickT rfl rfl) ?_
          refine .p rfl rfl (.mv rfl) ?_
          refine .p rfl rfl (.mv rfl) ?_
          refine .p rfl rfl (.len rfl rfl) ?_
          refine .p rfl rfl (.yes (.eq rfl rfl) (by rw [all_bad c56]; rfl)) ?_
          refine .p rfl rfl (.pickT rfl rfl) ?_
          refine .p rfl rfl (.as rfl) ?_
          refine .nil (.code ?_)
          refine .ret _ rfl ?_
          exact ⟨rfl, (by repeat (first | exact Ext.refl _ | assumption | refine Ext.trans (by assumption) ?_))⟩
        · refine .skip (.code (.seq (.keep [(10, _), (1, _), (5, _)] ⟨rfl, rfl, rfl, trivial⟩ (.region ?_))))
          refine .p rfl rfl (.mv rfl) ?_
          refine .call (first := []) (captured := []) rfl rfl rfl rfl (TMake_fn (OwnO.rep O52 (fun _ _ _ => trivial) (fun _ h _ => h.elim))) ?_
          rintro _ w69 ⟨v69, rfl, G69, X69⟩
          rw [all_good (Decidable.not_not.1 c56)] at G69
          rw [all_good (Decidable.not_not.1 c56)]
          refine .p rfl rfl (.mv rfl) ?_
          refine .p rfl rfl (.extract rfl rfl) ?_
          refine .p rfl rfl (.extract rfl rfl) ?_
          refine .p rfl rfl (.as rfl) ?_
          refine .p rfl rfl (.as rfl) ?_
          refine .nil (.code (.seq (.keep [(13, _), (12, _), (1, _), (5, _)] ⟨rfl, rfl, rfl, rfl, trivial⟩ (.region ?_))))
          refine .p rfl rfl (.mv rfl) ?_
          refine .p rfl rfl (.mv rfl) ?_
          refine .p rfl rfl (.mv rfl) ?_
          refine .p rfl rfl (.yes (.eq rfl rfl) (rfl)) ?_
          refine .p rfl rfl (.pickT rfl rfl) ?_
          refine .p rfl rfl (.mv rfl) ?_
          refine .p rfl rfl (.mv rfl) ?_
          refine .p rfl rfl (.bytesStr rfl (Gr.rep G69) rfl rfl rfl) ?_
          refine .p rfl rfl (.mv rfl) ?_
          refine .p rfl rfl (.bytesStr rfl (tBytes.ext0 hu ((hXm.trans X52).trans X69)) rfl rfl rfl) ?_
          refine .p rfl rfl (.yes (.eqS rfl rfl) (rfl)) ?_
          refine .p rfl rfl (.pickT rfl rfl) ?_
          refine .p rfl rfl (.as rfl) ?_
          refine .nil (.code ?_)
          refine .ret _ rfl ?_
          exact ⟨rfl, (by repeat (first | exact Ext.refl _ | assumption | refine Ext.trans (by assumption) ?_))⟩
      · intro meet
        refine .condD rfl (fun c31 => ?_) (fun c31 => ?_)
        · refine .seq (.keep [(6, _), (5, _), (0, _), (1, _)] ⟨rfl, rfl, rfl, rfl, trivial⟩ (.region ?_))
          refine .p rfl rfl (.mv rfl) ?_
          refine .call (first := []) (captured := []) rfl rfl rfl rfl (TAll_fn (Gr.rep G27)) ?_
          rintro _ w34 ⟨v34, rfl, O34, X34⟩
          rw [all_made c31] at O34
          rw [all_made c31]
          refine .p rfl rfl (.mv rfl) ?_
          refine .p rfl rfl (.extract rfl rfl) ?_
          refine .p rfl rfl (.extract rfl rfl) ?_
          refine .p rfl rfl (.as rfl) ?_
          refine .p rfl rfl (.as rfl) ?_
          refine .nil (.code (.seq (.keep [(9, _), (8, _), (6, _), (5, _), (0, _), (1, _)] ⟨rfl, rfl, rfl, rfl, rfl, rfl, trivial⟩ (.region ?_))))
          refine .p rfl rfl (.mv rfl) ?_
          refine .p rfl rfl (.no (.ne rfl rfl) (fun hn => hn rfl)) ?_
          refine .p rfl rfl (.mv rfl) ?_
          refine .p rfl rfl (.mv rfl) ?_
          refine .p rfl rfl (.mv rfl) ?_
          refine .call (first := []) (captured := []) rfl rfl rfl rfl (Same9T_fn ((Sl tEntry).ext0 h (Z27.trans X34)) (OwnO.rep O34 (fun _ _ _ => trivial) (fun _ h _ => h.elim))) ?_
          rintro _ w42 ⟨rfl, X42⟩
          obtain ⟨a27, c27, rfl, hc27⟩ := OwnO.val G27
          have htl := (makeT_ok (l := l) (b := (makeT l).1) (Prod.ext rfl c31)).2.2
          have htl : (makeT l).1.length ≤ 524288 := by rw [htl.1]; exact htl.2
          refine .p rfl rfl (.not rfl) ?_
          refine .p rfl rfl (.pickF rfl rfl) ?_
          refine .p rfl rfl (.mv rfl) ?_
          refine .p rfl rfl (.mv rfl) ?_
          refine .p rfl rfl (.len rfl rfl) ?_
          refine .p rfl rfl (.no (.gt rfl rfl) (by omega)) ?_
          refine .p rfl rfl (.pickF rfl rfl) ?_
          refine .nil (.code (.keep [(49, _), (5, _), (1, _)] ⟨rfl, rfl, rfl, trivial⟩ (.condF rfl (.skip ?_))))
          exact (meet w42 ((Z27.trans X34).trans X42)).of ⟨rfl, rfl, trivial⟩
        · refine .skip ?_
          exact (meet w27 Z27).of ⟨rfl, rfl, trivial⟩
end Go.Proofs.Ythkgadhamecnlaa
