
/-
  TableParts: walked.
-/
import Derived.Test.YthkgadhamecnlaaLaw09b
import Derived.Test.YthkgadhamecnlaaTabRange
import Derived.Test.YthkgadhamecnlaaEntEq
set_option linter.unusedVariables false
set_option linter.unusedSimpArgs false
set_option maxRecDepth 20000
namespace Go.Proofs.Ythkgadhamecnlaa
open Go page table
namespace table
theorem bless_nil (a : Bs) : Op.bytesLess a [] = false := by
  rw [bytesLess_eq]
  cases a with
  | nil => rfl
  | cons x a => rfl
theorem out_all (x : Entry) : outK [] [] x = false := by unfold outK; rw [bless_nil]; rfl
theorem range_some {b lo hi : Bs} {rows : List Row} (h : openF b = some rows) (hl : ¬ (256 < lo.length ∨ 256 < hi.length)) : rangeT b lo hi = ((entsR rows).filter (fun x => !outK lo hi x), 0) := by unfold rangeT; rw [h]; simp only; rw [if_neg hl]
theorem range_none {b lo hi : Bs} (h : openF b = none) : rangeT b lo hi = ([], 90) := by unfold rangeT; rw [h]
theorem filter_all (l : List Entry) : l.filter (fun x => !outK [] [] x) = l := List.filter_eq_self.2 (fun x _ => by rw [out_all]; rfl)
theorem open_rng {l : List Entry} (h : (makeT l).2 = 0) (lo hi : Bs) (hl : ¬ (256 < lo.length ∨ 256 < hi.length)) : rangeT (makeT l).1 lo hi = (l.filter (fun x => !outK lo hi x), 0) := by
  rw [range_some (open_back (Prod.ext rfl h)) hl, ents_rows, part_flat]
theorem all_made {l : List Entry} (h : (makeT l).2 = 0) : rangeT (makeT l).1 [] [] = (l, 0) := by
  rw [open_rng h _ _ (by simp), filter_all]
theorem all_bad {b : Bs} (h : ¬ (rangeT b [] []).2 = 0) : rangeT b [] [] = ([], 90) := by
  cases ho : openF b with
  | none => exact range_none ho
  | some rows => rw [range_some ho (by simp)] at h; exact absurd rfl h
theorem all_good {b : Bs} (h : (rangeT b [] []).2 = 0) : makeT (rangeT b [] []).1 = (b, 0) := by
  cases ho : openF b with
  | none => rw [range_none ho] at h; cases h
  | some rows => rw [range_some ho (by simp), filter_all]; exact open_made ho
end table
theorem Same9_fn {w : World} {v u : Value} {l m : List Entry} (hl : (Sl tEntry).rep All w v l) (hm : (Sl tEntry).rep All w u m) : Fn Try.prog 23 [v, u] w (fun r w2 => r = .bool (decide (l = m)) ∧ Ext (fun _ => False) w w2) := by
  obtain ⟨a, cap, rfl, hcap⟩ := Sl.val hl
  obtain ⟨a2, cap2, rfl, hcap2⟩ := Sl.val hm
  have hlim := Sl.lim hl
  have hlim2 := Sl.lim hm
  simp only [Lim] at hlim hlim2
  refine Fn.enter (fun w => Try.call23 _ w) Try.func23 rfl ?_
  refine .seq (.region ?_)
  refine .p rfl rfl (.as rfl) ?_
  refine .nil (.code (.seq (.seq (.keep [(0, _), (1, _)] ⟨rfl, rfl, trivial⟩ (.region ?_)))))
  refine .p rfl rfl (.mv rfl) ?_
  refine .p rfl rfl (.len rfl rfl) ?_
  refine .p rfl rfl (.mv rfl) ?_
  refine .p rfl rfl (.len rfl rfl) ?_
  refine .p rfl rfl (.ne rfl rfl) ?_
  refine .nil (.code (.keep [(10, _), (0, _), (1, _)] ⟨rfl, rfl, rfl, trivial⟩ ?_))
  refine .condD rfl (fun c10 => ?_) (fun c10 => ?_)
  · refine .seq (.keep [] trivial (.region ?_))
    refine .p rfl rfl (.as rfl) ?_
    refine .nil (.code ?_)
    refine .ret _ rfl ?_
    exact ⟨by rw [decide_eq_false (fun h => by rw [h] at c10; exact c10 rfl)]; rfl, .refl _⟩
  · refine .skip (.code (.seq (.seq (.keep [(0, _), (1, _)] ⟨rfl, rfl, trivial⟩ (.region ?_)))))
    refine .p rfl rfl (.as rfl) ?_
    refine .nil (.code (.block ?_))
    have hlen : l.length = m.length := by omega
    refine .loop (S := Nat) (fun s => [(0, .slice a l.length cap), (1, .slice a2 m.length cap2), (5, i64 s)]) (fun s => w) (fun s => s ≤ l.length ∧ l.take s = m.take s) (fun s => l.length - s) 0 ⟨rfl, rfl, rfl, trivial⟩ rfl ⟨Nat.zero_le _, rfl⟩ ?_
    rintro i J ⟨hi', htk⟩ again
    refine .seq (.seq (.region ?_))
    refine .p rfl rfl (.mv rfl) ?_
    refine .p rfl rfl (.mv rfl) ?_
    refine .p rfl rfl (.len rfl rfl) ?_
    refine .p rfl rfl (.lt rfl rfl) ?_
    refine .nil (.code (.keep [(14, _), (0, _), (1, _), (5, _)] ⟨rfl, rfl, rfl, rfl, trivial⟩ ?_))
    refine .condD rfl (fun c14 => ?_) (fun c14 => ?_)
    · have hi : i < l.length := by omega
      have him : i < m.length := by omega
      obtain ⟨b0, o0, c0, ue, e, _, hcs, hre⟩ := Sl.at hl (List.getElem?_eq_getElem hi)
      cases e
      obtain ⟨rfl, h1, h2, h3⟩ := tEntry.val hre
      obtain ⟨b1, o1, c1, ue1, e1, _, hcm, hrm⟩ := Sl.at hm (List.getElem?_eq_getElem him)
      cases e1
      obtain ⟨rfl, g1, g2, g3⟩ := tEntry.val hrm
      refine .skip (.code (.seq (.block (.seq (.keep [(0, _), (1, _), (5, _)] ⟨rfl, rfl, rfl, trivial⟩ (.draws (by kernel_rfl) (by kernel_rfl) ?_))))))
      refine .p rfl rfl (.mv rfl) ?_
      refine .p rfl rfl (.mv rfl) ?_
      refine .p rfl rfl (.indexAddr (s := 4) rfl rfl rfl rfl (by omega)) ?_
      refine .p rfl rfl (.loadA (n := 4) rfl rfl rfl rfl rfl hcs) ?_
      refine .p rfl rfl (.mv rfl) ?_
      refine .p rfl rfl (.mv rfl) ?_
      refine .p rfl rfl (.indexAddr (s := 4) rfl rfl rfl rfl (by omega)) ?_
      refine .p rfl rfl (.loadA (n := 4) rfl rfl rfl rfl rfl hcm) ?_
      refine .p rfl rfl (.neA (xs := [_, _, _, _]) (ys := [_, _, _, _]) rfl rfl (by kernel_rfl) (entry_eq l[i] m[i])) ?_
      refine .nil (.code (.keep [(25, _), (0, _), (1, _), (5, _)] ⟨rfl, rfl, rfl, rfl, trivial⟩ ?_))
      refine .cond rfl (fun c25 => ?_) (fun c25 => ?_)
      · refine .seq (.keep [] trivial (.region ?_))
        refine .p rfl rfl (.as rfl) ?_
        refine .nil (.code ?_)
        refine .ret _ rfl ?_
        exact ⟨by rw [decide_eq_false (fun h => by subst h; simp at c25)]; rfl, .refl _⟩
      · refine .skip (.blk (.code (.keep [(0, _), (1, _), (5, _)] ⟨rfl, rfl, rfl, trivial⟩ (.region ?_))))
        refine .p rfl rfl (.mv rfl) ?_
        refine .p rfl rfl (.add rfl rfl (by omega)) ?_
        refine .p rfl rfl (.as rfl) ?_
        refine .nil ?_
        exact (again (i + 1) ⟨by show i + 1 ≤ _; omega, by show l.take (i + 1) = m.take (i + 1); rw [List.take_succ_eq_append_getElem hi, List.take_succ_eq_append_getElem him, htk, show l[i] = m[i] by simpa using c25]⟩ (by show _ - (i + 1) < _ - i; omega)).of ⟨rfl, rfl, rfl, trivial⟩
    · refine .exit rfl (.code (.seq (.keep [] trivial (.region ?_))))
      refine .p rfl rfl (.as rfl) ?_
      refine .nil (.code ?_)
      refine .ret _ rfl ?_
      obtain rfl : i = l.length := by omega
      exact ⟨by rw [decide_eq_true (by rw [List.take_length, hlen, List.take_length] at htk; exact htk)]; rfl, .refl _⟩
theorem Same9T_fn {w : World} {v u : Value} {l : List Entry} (hl : (Sl tEntry).rep All w v l) (hm : (Sl tEntry).rep All w u l) : Fn Try.prog 23 [v, u] w (fun r w2 => r = .bool true ∧ Ext (fun _ => False) w w2) :=
  (Same9_fn hl hm).mono fun r w2 ⟨h1, h2⟩ => ⟨h1.trans (by rw [decide_eq_true rfl]), h2⟩
namespace table
theorem less_le {k a b : Bs} (h1 : Op.bytesLess k a = true) (h2 : Op.bytesLess b a = false) : Op.bytesLess k b = true := by
  rw [bytesLess_eq] at h1 h2 ⊢
  have h1 := of_decide_eq_true h1
  have h2 := of_decide_eq_false h2
  have n := cmpB_neg a b
  by_cases e : Lib.compareBytes a b = 0
  · have e2 := (cmpB_zero a b).1 e
    subst e2
    exact decide_eq_true h1
  · exact decide_eq_true (cmpB_trans k a b h1 (by omega))
theorem filter_or {f g : Entry → Bool} : ∀ {l : List Entry}, l.Pairwise (fun x y => ¬ (g x = true ∧ f y = true)) → (∀ x ∈ l, ¬ (f x = true ∧ g x = true)) → l.filter f ++ l.filter g = l.filter (fun x => f x || g x)
  | [], _, _ => rfl
  | x :: l, hp, hd => by
    obtain ⟨hp1, hp2⟩ := List.pairwise_cons.1 hp
    have ih := filter_or hp2 (fun y hy => hd y (by simp [hy]))
    by_cases hf : f x = true
    · have hg : g x = false := by
        cases hg : g x with
        | false => rfl
        | true => exact absurd ⟨hf, hg⟩ (hd x (by simp))
      rw [List.filter_cons_of_pos hf, List.filter_cons_of_neg (by rw [hg]; exact Bool.false_ne_true), List.filter_cons_of_pos (by show (f x || g x) = true; rw [hf]; rfl), List.cons_append, ih]
    · by_cases hg : g x = true
      · have hnil : l.filter f = [] := List.filter_eq_nil_iff.2 (fun y hy hfy => hp1 y hy ⟨hg, hfy⟩)
        rw [List.filter_cons_of_neg hf, List.filter_cons_of_pos hg, List.filter_cons_of_pos (by show (f x || g x) = true; rw [hg, Bool.or_true]), ← ih, hnil]
        rfl
      · rw [List.filter_cons_of_neg hf, List.filter_cons_of_neg hg, List.filter_cons_of_neg (by show ¬ (f x || g x) = true; intro h; rcases Bool.or_eq_true_iff.1 h with h | h; exact hf h; exact hg h), ih]
def inK (lo hi : Bs) (x : Entry) : Bool := !outK lo hi x
theorem in_eq {lo hi : Bs} (h : ¬ hi = []) (x : Entry) : inK lo hi x = (!Op.bytesLess x.key lo && Op.bytesLess x.key hi) := by
  unfold inK outK
  rw [decide_eq_true h]
  cases Op.bytesLess x.key lo <;> cases Op.bytesLess x.key hi <;> rfl
theorem in_open {lo : Bs} (x : Entry) : inK lo [] x = !Op.bytesLess x.key lo := by
  unfold inK outK
  cases Op.bytesLess x.key lo <;> rfl
theorem keys_up {l : List Entry} (h : checkE l = 0) : l.Pairwise (fun x y => Op.bytesLess y.key x.key = false) := (check_sorted h).imp (fun hxy => less_keys hxy)
/-- from one key to another one, and from there on -/
theorem parts_two {l : List Entry} (h : checkE l = 0) {a b c : Bs} (hab : Op.bytesLess b a = false) (hbc : Op.bytesLess c b = false) (hb : ¬ b = []) (hc : ¬ c = []) : l.filter (inK a b) ++ l.filter (inK b c) = l.filter (inK a c) := by
  rw [filter_or]
  · congr 1
    funext x
    rw [in_eq hb, in_eq hc, in_eq hc]
    have h1 : Op.bytesLess x.key a = true → Op.bytesLess x.key b = true := fun h => less_le h hab
    have h2 : Op.bytesLess x.key b = true → Op.bytesLess x.key c = true := fun h => less_le h hbc
    cases h3 : Op.bytesLess x.key a <;> cases h4 : Op.bytesLess x.key b <;> cases h5 : Op.bytesLess x.key c <;> simp_all
  · refine (keys_up h).imp (fun {x y} hxy hh => ?_)
    rw [in_eq hb, in_eq hc] at hh
    simp only [Bool.and_eq_true, Bool.not_eq_true'] at hh
    have := less_le hh.2.2 hh.1.1
    rw [hxy] at this
    cases this
  · intro x hx hh
    rw [in_eq hb, in_eq hc] at hh
    simp only [Bool.and_eq_true, Bool.not_eq_true'] at hh
    rw [hh.1.2] at hh
    exact absurd hh.2.1 (by decide)
theorem parts_end {l : List Entry} (h : checkE l = 0) {a c : Bs} (hac : Op.bytesLess c a = false) (hc : ¬ c = []) : l.filter (inK a c) ++ l.filter (inK c []) = l.filter (inK a []) := by
  rw [filter_or]
  · congr 1
    funext x
    rw [in_eq hc, in_open, in_open]
    have h1 : Op.bytesLess x.key a = true → Op.bytesLess x.key c = true := fun h => less_le h hac
    cases h3 : Op.bytesLess x.key a <;> cases h4 : Op.bytesLess x.key c <;> simp_all
  · refine (keys_up h).imp (fun {x y} hxy hh => ?_)
    rw [in_eq hc, in_open] at hh
    simp only [Bool.and_eq_true, Bool.not_eq_true'] at hh
    have := less_le hh.2.2 hh.1
    rw [hxy] at this
    cases this
  · intro x hx hh
    rw [in_eq hc, in_open] at hh
    simp only [Bool.and_eq_true, Bool.not_eq_true'] at hh
    rw [hh.1.2] at hh
    exact absurd hh.2 (by decide)
theorem in_nil (l : List Entry) : l.filter (inK [] []) = l := List.filter_eq_self.2 (fun x _ => by rw [in_open, bless_nil]; rfl)
theorem parts_all {l : List Entry} (h : checkE l = 0) {a c : Bs} (hac : Op.bytesLess c a = false) (hc : ¬ c = []) : (if a = [] then [] else l.filter (inK [] a)) ++ l.filter (inK a c) ++ l.filter (inK c []) = l := by
  by_cases ha : a = []
  · subst ha
    rw [if_pos rfl, List.nil_append, parts_end h (bless_nil c) hc, in_nil]
  · rw [if_neg ha, parts_two h (bless_nil a) hac ha hc, parts_end h (bless_nil c) hc, in_nil]
end table
set_option maxHeartbeats 1000000 in
theorem TableParts_fn {w : World} {v : Value} {l : List Entry} {a b c : Bs} (h : (Sl tEntry).rep All w v l) (hb : l.length ≤ 1048576) : Fn Try.prog 7 [v, str a, str b, str c] w (fun r w2 => r = .bool true ∧ Ext (fun _ => False) w w2) := by
  obtain ⟨al, cap, rfl, hcap⟩ := Sl.val h
  have h := (Sl tEntry).mono h (P' := fun k => k < w.heap.size) (fun k _ hk => hk)
  refine Fn.enter (fun w => Try.call7 _ w) Try.func7 rfl ?_
  refine .seq (.region ?_)
  refine .p rfl rfl (.as rfl) ?_
  refine .nil (.code (.seq (.keep [(0, _), (1, _), (2, _), (3, _)] ⟨rfl, rfl, rfl, rfl, trivial⟩ (.region ?_))))
  refine .call (first := []) (captured := []) rfl rfl rfl rfl (alive9_fn) ?_
  rintro _ w22 ⟨rfl, X22⟩
  have z22 := X22.size
  refine .p rfl rfl (.as rfl) ?_
  refine .nil (.code (.seq (.seq (.keep [(9, _), (0, _), (1, _), (2, _), (3, _)] ⟨rfl, rfl, rfl, rfl, rfl, trivial⟩ (.region ?_)))))
  refine .p rfl rfl (.mv rfl) ?_
  refine .p rfl rfl (.not rfl) ?_
  refine .nil (.code (.keep [(24, _), (9, _), (0, _), (1, _), (2, _), (3, _)] ⟨rfl, rfl, rfl, rfl, rfl, rfl, trivial⟩ (.condF rfl (.skip (.code (.seq (.seq (.keep [(9, _), (0, _), (1, _), (2, _), (3, _)] ⟨rfl, rfl, rfl, rfl, rfl, trivial⟩ (.region ?_)))))))))
  refine .p rfl rfl (.mv rfl) ?_
  refine .call (first := []) (captured := []) rfl rfl rfl rfl (hvy_fn ((Sl tEntry).mono ((Sl tEntry).ext0 h X22) (fun _ _ _ => trivial)) hb) ?_
  rintro _ w26 ⟨⟨q, rfl⟩, X26⟩
  have z26 := X26.size
  refine .p rfl rfl (.mv rfl) ?_
  refine .case 27 rfl (fun c27 => ?_) (fun c27 => ?_)
  · refine .skip rfl rfl ?_
    refine .skip rfl rfl ?_
    refine .skip rfl rfl ?_
    refine .p rfl rfl (.pickT rfl rfl) ?_
    refine .p rfl rfl (.mv rfl) ?_
    refine .skip rfl rfl ?_
    refine .skip rfl rfl ?_
    refine .skip rfl rfl ?_
    refine .p rfl rfl (.pickT rfl rfl) ?_
    refine .p rfl rfl (.mv rfl) ?_
    refine .skip rfl rfl ?_
    refine .skip rfl rfl ?_
    refine .skip rfl rfl ?_
    refine .p rfl rfl (.pickT rfl rfl) ?_
    refine .p rfl rfl (.mv rfl) ?_
    refine .skip rfl rfl ?_
    refine .skip rfl rfl ?_
    refine .skip rfl rfl ?_
    refine .p rfl rfl (.pickT rfl rfl) ?_
    refine .p rfl rfl (.mv rfl) ?_
    refine .skip rfl rfl ?_
    refine .skip rfl rfl ?_
    refine .skip rfl rfl ?_
    refine .p rfl rfl (.pickT rfl rfl) ?_
    refine .p rfl rfl (.mv rfl) ?_
    refine .skip rfl rfl ?_
    refine .skip rfl rfl ?_
    refine .p rfl rfl (.pickT rfl rfl) ?_
    refine .p rfl rfl (.mv rfl) ?_
    refine .skip rfl rfl ?_
    refine .skip rfl rfl ?_
    refine .p rfl rfl (.pickT rfl rfl) ?_
    refine .nil (.code (.keep [(59, _), (9, _), (0, _), (1, _), (2, _), (3, _)] ⟨rfl, rfl, rfl, rfl, rfl, rfl, trivial⟩ (.condT rfl (.seq (.keep [(9, _)] ⟨rfl, trivial⟩ (.region ?_))))))
    refine .p rfl rfl (.mv rfl) ?_
    refine .p rfl rfl (.as rfl) ?_
    refine .nil (.code ?_)
    refine .ret _ rfl ?_
    exact ⟨rfl, (by repeat (first | exact Ext.refl _ | assumption | refine Ext.trans (by assumption) ?_))⟩
  · refine .p rfl rfl (.mv rfl) ?_
    refine .p rfl rfl (.lenS rfl rfl) ?_
    refine .p rfl rfl (.gt rfl rfl) ?_
    refine .p rfl rfl (.pickF rfl rfl) ?_
    refine .p rfl rfl (.mv rfl) ?_
    refine .caseD 32 rfl (fun c32 => ?_) (fun c32 => ?_)
    · refine .skip rfl rfl ?_
      refine .skip rfl rfl ?_
      refine .skip rfl rfl ?_
      refine .p rfl rfl (.pickT rfl rfl) ?_
      refine .p rfl rfl (.mv rfl) ?_
      refine .skip rfl rfl ?_
      refine .skip rfl rfl ?_
      refine .skip rfl rfl ?_
      refine .p rfl rfl (.pickT rfl rfl) ?_
      refine .p rfl rfl (.mv rfl) ?_
      refine .skip rfl rfl ?_
      refine .skip rfl rfl ?_
      refine .skip rfl rfl ?_
      refine .p rfl rfl (.pickT rfl rfl) ?_
      refine .p rfl rfl (.mv rfl) ?_
      refine .skip rfl rfl ?_
      refine .skip rfl rfl ?_
      refine .skip rfl rfl ?_
      refine .p rfl rfl (.pickT rfl rfl) ?_
      refine .p rfl rfl (.mv rfl) ?_
      refine .skip rfl rfl ?_
      refine .skip rfl rfl ?_
      refine .p rfl rfl (.pickT rfl rfl) ?_
      refine .p rfl rfl (.mv rfl) ?_
      refine .skip rfl rfl ?_
      refine .skip rfl rfl ?_
      refine .p rfl rfl (.pickT rfl rfl) ?_
      refine .nil (.code (.keep [(59, _), (9, _), (0, _), (1, _), (2, _), (3, _)] ⟨rfl, rfl, rfl, rfl, rfl, rfl, trivial⟩ (.condT rfl (.seq (.keep [(9, _)] ⟨rfl, trivial⟩ (.region ?_))))))
      refine .p rfl rfl (.mv rfl) ?_
      refine .p rfl rfl (.as rfl) ?_
      refine .nil (.code ?_)
      refine .ret _ rfl ?_
      exact ⟨rfl, (by repeat (first | exact Ext.refl _ | assumption | refine Ext.trans (by assumption) ?_))⟩
    · refine .p rfl rfl (.mv rfl) ?_
      refine .p rfl rfl (.lenS rfl rfl) ?_
      refine .p rfl rfl (.gt rfl rfl) ?_
      refine .p rfl rfl (.pickF rfl rfl) ?_
      refine .p rfl rfl (.mv rfl) ?_
      refine .caseD 37 rfl (fun c37 => ?_) (fun c37 => ?_)
      · refine .skip rfl rfl ?_
        refine .skip rfl rfl ?_
        refine .skip rfl rfl ?_
        refine .p rfl rfl (.pickT rfl rfl) ?_
        refine .p rfl rfl (.mv rfl) ?_
        refine .skip rfl rfl ?_
        refine .skip rfl rfl ?_
        refine .skip rfl rfl ?_
        refine .p rfl rfl (.pickT rfl rfl) ?_
        refine .p rfl rfl (.mv rfl) ?_
        refine .skip rfl rfl ?_
        refine .skip rfl rfl ?_
        refine .skip rfl rfl ?_
        refine .p rfl rfl (.pickT rfl rfl) ?_
        refine .p rfl rfl (.mv rfl) ?_
        refine .skip rfl rfl ?_
        refine .skip rfl rfl ?_
        refine .p rfl rfl (.pickT rfl rfl) ?_
        refine .p rfl rfl (.mv rfl) ?_
        refine .skip rfl rfl ?_
        refine .skip rfl rfl ?_
        refine .p rfl rfl (.pickT rfl rfl) ?_
        refine .nil (.code (.keep [(59, _), (9, _), (0, _), (1, _), (2, _), (3, _)] ⟨rfl, rfl, rfl, rfl, rfl, rfl, trivial⟩ (.condT rfl (.seq (.keep [(9, _)] ⟨rfl, trivial⟩ (.region ?_))))))
        refine .p rfl rfl (.mv rfl) ?_
        refine .p rfl rfl (.as rfl) ?_
        refine .nil (.code ?_)
        refine .ret _ rfl ?_
        exact ⟨rfl, (by repeat (first | exact Ext.refl _ | assumption | refine Ext.trans (by assumption) ?_))⟩
      · refine .p rfl rfl (.mv rfl) ?_
        refine .p rfl rfl (.lenS rfl rfl) ?_
        refine .p rfl rfl (.gt rfl rfl) ?_
        refine .p rfl rfl (.pickF rfl rfl) ?_
        refine .p rfl rfl (.mv rfl) ?_
        refine .caseD 42 rfl (fun c42 => ?_) (fun c42 => ?_)
        · refine .skip rfl rfl ?_
          refine .skip rfl rfl ?_
          refine .skip rfl rfl ?_
          refine .p rfl rfl (.pickT rfl rfl) ?_
          refine .p rfl rfl (.mv rfl) ?_
          refine .skip rfl rfl ?_
          refine .skip rfl rfl ?_
          refine .skip rfl rfl ?_
          refine .p rfl rfl (.pickT rfl rfl) ?_
          refine .p rfl rfl (.mv rfl) ?_
          refine .skip rfl rfl ?_
          refine .skip rfl rfl ?_
          refine .p rfl rfl (.pickT rfl rfl) ?_
          refine .p rfl rfl (.mv rfl) ?_
          refine .skip rfl rfl ?_
          refine .skip rfl rfl ?_
          refine .p rfl rfl (.pickT rfl rfl) ?_
          refine .nil (.code (.keep [(59, _), (9, _), (0, _), (1, _), (2, _), (3, _)] ⟨rfl, rfl, rfl, rfl, rfl, rfl, trivial⟩ (.condT rfl (.seq (.keep [(9, _)] ⟨rfl, trivial⟩ (.region ?_))))))
          refine .p rfl rfl (.mv rfl) ?_
          refine .p rfl rfl (.as rfl) ?_
          refine .nil (.code ?_)
          refine .ret _ rfl ?_
          exact ⟨rfl, (by repeat (first | exact Ext.refl _ | assumption | refine Ext.trans (by assumption) ?_))⟩
        · refine .p rfl rfl (.mv rfl) ?_
          refine .p rfl rfl (.mv rfl) ?_
          refine .p rfl rfl (.gtS rfl rfl) ?_
          refine .p rfl rfl (.pickF rfl rfl) ?_
          refine .p rfl rfl (.mv rfl) ?_
          refine .case 47 rfl (fun c47 => ?_) (fun c47 => ?_)
          · refine .skip rfl rfl ?_
            refine .skip rfl rfl ?_
            refine .skip rfl rfl ?_
            refine .p rfl rfl (.pickT rfl rfl) ?_
            refine .p rfl rfl (.mv rfl) ?_
            refine .skip rfl rfl ?_
            refine .skip rfl rfl ?_
            refine .p rfl rfl (.pickT rfl rfl) ?_
            refine .p rfl rfl (.mv rfl) ?_
            refine .skip rfl rfl ?_
            refine .skip rfl rfl ?_
            refine .p rfl rfl (.pickT rfl rfl) ?_
            refine .nil (.code (.keep [(59, _), (9, _), (0, _), (1, _), (2, _), (3, _)] ⟨rfl, rfl, rfl, rfl, rfl, rfl, trivial⟩ (.condT rfl (.seq (.keep [(9, _)] ⟨rfl, trivial⟩ (.region ?_))))))
            refine .p rfl rfl (.mv rfl) ?_
            refine .p rfl rfl (.as rfl) ?_
            refine .nil (.code ?_)
            refine .ret _ rfl ?_
            exact ⟨rfl, (by repeat (first | exact Ext.refl _ | assumption | refine Ext.trans (by assumption) ?_))⟩
          · refine .p rfl rfl (.mv rfl) ?_
            refine .p rfl rfl (.mv rfl) ?_
            refine .p rfl rfl (.gtS rfl rfl) ?_
            refine .p rfl rfl (.pickF rfl rfl) ?_
            refine .p rfl rfl (.mv rfl) ?_
            refine .case 52 rfl (fun c52 => ?_) (fun c52 => ?_)
            · refine .skip rfl rfl ?_
              refine .skip rfl rfl ?_
              refine .p rfl rfl (.pickT rfl rfl) ?_
              refine .p rfl rfl (.mv rfl) ?_
              refine .skip rfl rfl ?_
              refine .skip rfl rfl ?_
              refine .p rfl rfl (.pickT rfl rfl) ?_
              refine .nil (.code (.keep [(59, _), (9, _), (0, _), (1, _), (2, _), (3, _)] ⟨rfl, rfl, rfl, rfl, rfl, rfl, trivial⟩ (.condT rfl (.seq (.keep [(9, _)] ⟨rfl, trivial⟩ (.region ?_))))))
              refine .p rfl rfl (.mv rfl) ?_
              refine .p rfl rfl (.as rfl) ?_
              refine .nil (.code ?_)
              refine .ret _ rfl ?_
              exact ⟨rfl, (by repeat (first | exact Ext.refl _ | assumption | refine Ext.trans (by assumption) ?_))⟩
            · refine .p rfl rfl (.mv rfl) ?_
              refine .p rfl rfl (.eqS rfl rfl) ?_
              refine .p rfl rfl (.pickF rfl rfl) ?_
              refine .p rfl rfl (.mv rfl) ?_
              refine .caseD 56 rfl (fun c56 => ?_) (fun c56 => ?_)
              · refine .skip rfl rfl ?_
                refine .skip rfl rfl ?_
                refine .p rfl rfl (.pickT rfl rfl) ?_
                refine .nil (.code (.keep [(59, _), (9, _), (0, _), (1, _), (2, _), (3, _)] ⟨rfl, rfl, rfl, rfl, rfl, rfl, trivial⟩ (.condT rfl (.seq (.keep [(9, _)] ⟨rfl, trivial⟩ (.region ?_))))))
                refine .p rfl rfl (.mv rfl) ?_
                refine .p rfl rfl (.as rfl) ?_
                refine .nil (.code ?_)
                refine .ret _ rfl ?_
                exact ⟨rfl, (by repeat (first | exact Ext.refl _ | assumption | refine Ext.trans (by assumption) ?_))⟩
              · refine .p rfl rfl (.mv rfl) ?_
                refine .p rfl rfl (.eqS rfl rfl) ?_
                refine .p rfl rfl (.pickF rfl rfl) ?_
                refine .nil (.code (.keep [(59, _), (9, _), (0, _), (1, _), (2, _), (3, _)] ⟨rfl, rfl, rfl, rfl, rfl, rfl, trivial⟩ ?_))
                refine .condD rfl (fun c59 => ?_) (fun c59 => ?_)
                · refine .seq (.keep [(9, _)] ⟨rfl, trivial⟩ (.region ?_))
                  refine .p rfl rfl (.mv rfl) ?_
                  refine .p rfl rfl (.as rfl) ?_
                  refine .nil (.code ?_)
                  refine .ret _ rfl ?_
                  exact ⟨rfl, (by repeat (first | exact Ext.refl _ | assumption | refine Ext.trans (by assumption) ?_))⟩
                · refine .skip (.code (.seq (.keep [(9, _), (0, _), (1, _), (2, _), (3, _)] ⟨rfl, rfl, rfl, rfl, rfl, trivial⟩ (.region ?_))))
                  refine .p rfl rfl (.mv rfl) ?_
                  refine .call (first := []) (captured := []) rfl rfl rfl rfl (TMake_fn ((Sl tEntry).mono ((Sl tEntry).ext0 h (X22.trans X26)) (fun _ _ _ => trivial))) ?_
                  rintro _ w63 ⟨v63, rfl, G63, X63⟩
                  have z63 := X63.size
                  refine .p rfl rfl (.mv rfl) ?_
                  refine .p rfl rfl (.extract rfl rfl) ?_
                  refine .p rfl rfl (.extract rfl rfl) ?_
                  refine .p rfl rfl (.as rfl) ?_
                  refine .p rfl rfl (.as rfl) ?_
                  refine .nil (.code (.seq (.seq (.keep [(11, _), (10, _), (9, _), (0, _), (1, _), (2, _), (3, _)] ⟨rfl, rfl, rfl, rfl, rfl, rfl, rfl, trivial⟩ (.region ?_)))))
                  refine .p rfl rfl (.mv rfl) ?_
                  refine .p rfl rfl (.ne rfl rfl) ?_
                  refine .nil (.code (.keep [(67, _), (10, _), (9, _), (0, _), (1, _), (2, _), (3, _)] ⟨rfl, rfl, rfl, rfl, rfl, rfl, rfl, trivial⟩ ?_))
                  refine .condD rfl (fun c67 => ?_) (fun c67 => ?_)
                  · refine .seq (.keep [(9, _)] ⟨rfl, trivial⟩ (.region ?_))
                    refine .p rfl rfl (.mv rfl) ?_
                    refine .p rfl rfl (.as rfl) ?_
                    refine .nil (.code ?_)
                    refine .ret _ rfl ?_
                    exact ⟨rfl, (by repeat (first | exact Ext.refl _ | assumption | refine Ext.trans (by assumption) ?_))⟩
                  · have he0 : (makeT l).2 = 0 := Decidable.not_not.1 c67
                    have hck := (makeT_ok (l := l) (Prod.ext rfl he0)).1
                    have hl4 := (check_ok hck).1
                    have hab : Op.bytesLess b a = false := c47
                    have hbc : Op.bytesLess c b = false := c52
                    have hbn : ¬ b = [] := c56
                    have hcn : ¬ c = [] := c59
                    have hac : Op.bytesLess c a = false := by
                      cases hh : Op.bytesLess c a with
                      | false => rfl
                      | true => rw [less_le hh hab] at hbc; cases hbc
                    have hfl : ∀ p : Entry → Bool, (l.filter p).length ≤ 4096 := fun p => Nat.le_trans (List.length_filter_le _ _) hl4
                    refine .skip (.code (.seq (.keep [(10, _), (9, _), (0, _), (1, _), (2, _), (3, _)] ⟨rfl, rfl, rfl, rfl, rfl, rfl, trivial⟩ (.region ?_))))
                    refine .p rfl rfl (.mv rfl) ?_
                    refine .p rfl rfl (.mv rfl) ?_
                    refine .p rfl rfl (.mv rfl) ?_
                    refine .call (first := []) (captured := []) rfl rfl rfl rfl (TRange_fn (lo := a) (hi := b) (Gr.rep (Gr.ext0 G63 (by repeat (first | exact Ext.refl _ | assumption | refine Ext.trans (by assumption) ?_))))) ?_
                    rintro _ w73 ⟨v73, rfl, O73, X73⟩
                    rw [open_rng he0 _ _ (by (try simp only [List.length_nil]); omega)] at O73
                    rw [open_rng he0 _ _ (by (try simp only [List.length_nil]); omega)]
                    have O73 : OwnO tEntry (fun _ => False) 33 w73 v73 (l.filter (inK (a) (b))) _ := O73
                    have O73 := OwnO.mono O73 (Q' := fun _ => False) (B' := fun k => w63.heap.size ≤ k ∧ k < w73.heap.size) (fun _ h _ => h) (fun k h hk => ⟨h, hk⟩)
                    have z73 : w63.heap.size ≤ w73.heap.size := X73.size
                    refine .p rfl rfl (.mv rfl) ?_
                    refine .p rfl rfl (.extract rfl rfl) ?_
                    refine .p rfl rfl (.extract rfl rfl) ?_
                    refine .p rfl rfl (.as rfl) ?_
                    refine .p rfl rfl (.as rfl) ?_
                    refine .nil (.code (.seq (.keep [(13, _), (12, _), (10, _), (9, _), (0, _), (1, _), (2, _), (3, _)] ⟨rfl, rfl, rfl, rfl, rfl, rfl, rfl, rfl, trivial⟩ (.region ?_))))
                    refine .p rfl rfl (.mv rfl) ?_
                    refine .p rfl rfl (.mv rfl) ?_
                    refine .p rfl rfl (.mv rfl) ?_
                    refine .call (first := []) (captured := []) rfl rfl rfl rfl (TRange_fn (lo := b) (hi := c) (Gr.rep (Gr.ext0 G63 (by repeat (first | exact Ext.refl _ | assumption | refine Ext.trans (by assumption) ?_))))) ?_
                    rintro _ w80 ⟨v80, rfl, O80, X80⟩
                    rw [open_rng he0 _ _ (by (try simp only [List.length_nil]); omega)] at O80
                    rw [open_rng he0 _ _ (by (try simp only [List.length_nil]); omega)]
                    have O80 : OwnO tEntry (fun _ => False) 33 w80 v80 (l.filter (inK (b) (c))) _ := O80
                    have O80 := OwnO.mono O80 (Q' := fun _ => False) (B' := fun k => w73.heap.size ≤ k ∧ k < w80.heap.size) (fun _ h _ => h) (fun k h hk => ⟨h, hk⟩)
                    have z80 : w73.heap.size ≤ w80.heap.size := X80.size
                    refine .p rfl rfl (.mv rfl) ?_
                    refine .p rfl rfl (.extract rfl rfl) ?_
                    refine .p rfl rfl (.extract rfl rfl) ?_
                    refine .p rfl rfl (.as rfl) ?_
                    refine .p rfl rfl (.as rfl) ?_
                    refine .nil (.code (.seq (.keep [(15, _), (14, _), (13, _), (12, _), (10, _), (9, _), (0, _), (1, _), (3, _)] ⟨rfl, rfl, rfl, rfl, rfl, rfl, rfl, rfl, rfl, trivial⟩ (.region ?_))))
                    refine .p rfl rfl (.mv rfl) ?_
                    refine .p rfl rfl (.mv rfl) ?_
                    refine .p rfl rfl (.mv rfl) ?_
                    refine .call (first := []) (captured := []) rfl rfl rfl rfl (TRange_fn (lo := a) (hi := c) (Gr.rep (Gr.ext0 G63 (by repeat (first | exact Ext.refl _ | assumption | refine Ext.trans (by assumption) ?_))))) ?_
                    rintro _ w87 ⟨v87, rfl, O87, X87⟩
                    rw [open_rng he0 _ _ (by (try simp only [List.length_nil]); omega)] at O87
                    rw [open_rng he0 _ _ (by (try simp only [List.length_nil]); omega)]
                    have O87 : OwnO tEntry (fun _ => False) 33 w87 v87 (l.filter (inK (a) (c))) _ := O87
                    have O87 := OwnO.mono O87 (Q' := fun _ => False) (B' := fun k => w80.heap.size ≤ k ∧ k < w87.heap.size) (fun _ h _ => h) (fun k h hk => ⟨h, hk⟩)
                    have z87 : w80.heap.size ≤ w87.heap.size := X87.size
                    refine .p rfl rfl (.mv rfl) ?_
                    refine .p rfl rfl (.extract rfl rfl) ?_
                    refine .p rfl rfl (.extract rfl rfl) ?_
                    refine .p rfl rfl (.as rfl) ?_
                    refine .p rfl rfl (.as rfl) ?_
                    refine .nil (.code (.seq (.keep [(17, _), (16, _), (15, _), (14, _), (13, _), (12, _), (10, _), (9, _), (0, _), (1, _), (3, _)] ⟨rfl, rfl, rfl, rfl, rfl, rfl, rfl, rfl, rfl, rfl, rfl, trivial⟩ (.region ?_))))
                    refine .p rfl rfl (.mv rfl) ?_
                    refine .p rfl rfl (.mv rfl) ?_
                    refine .call (first := []) (captured := []) rfl rfl rfl rfl (TRange_fn (lo := []) (hi := a) (Gr.rep (Gr.ext0 G63 (by repeat (first | exact Ext.refl _ | assumption | refine Ext.trans (by assumption) ?_))))) ?_
                    rintro _ w93 ⟨v93, rfl, O93, X93⟩
                    rw [open_rng he0 _ _ (by (try simp only [List.length_nil]); omega)] at O93
                    rw [open_rng he0 _ _ (by (try simp only [List.length_nil]); omega)]
                    have O93 : OwnO tEntry (fun _ => False) 33 w93 v93 (l.filter (inK ([]) (a))) _ := O93
                    have O93 := OwnO.mono O93 (Q' := fun _ => False) (B' := fun k => w87.heap.size ≤ k ∧ k < w93.heap.size) (fun _ h _ => h) (fun k h hk => ⟨h, hk⟩)
                    have z93 : w87.heap.size ≤ w93.heap.size := X93.size
                    refine .p rfl rfl (.mv rfl) ?_
                    refine .p rfl rfl (.extract rfl rfl) ?_
                    refine .p rfl rfl (.extract rfl rfl) ?_
                    refine .p rfl rfl (.as rfl) ?_
                    refine .p rfl rfl (.as rfl) ?_
                    refine .nil (.code (.seq (.keep [(19, _), (18, _), (17, _), (16, _), (15, _), (14, _), (13, _), (12, _), (10, _), (9, _), (0, _), (1, _), (3, _)] ⟨rfl, rfl, rfl, rfl, rfl, rfl, rfl, rfl, rfl, rfl, rfl, rfl, rfl, trivial⟩ (.region ?_))))
                    refine .p rfl rfl (.mv rfl) ?_
                    refine .p rfl rfl (.mv rfl) ?_
                    refine .call (first := []) (captured := []) rfl rfl rfl rfl (TRange_fn (lo := c) (hi := []) (Gr.rep (Gr.ext0 G63 (by repeat (first | exact Ext.refl _ | assumption | refine Ext.trans (by assumption) ?_))))) ?_
                    rintro _ w99 ⟨v99, rfl, O99, X99⟩
                    rw [open_rng he0 _ _ (by (try simp only [List.length_nil]); omega)] at O99
                    rw [open_rng he0 _ _ (by (try simp only [List.length_nil]); omega)]
                    have O99 : OwnO tEntry (fun _ => False) 33 w99 v99 (l.filter (inK (c) ([]))) _ := O99
                    have O99 := OwnO.mono O99 (Q' := fun _ => False) (B' := fun k => w93.heap.size ≤ k ∧ k < w99.heap.size) (fun _ h _ => h) (fun k h hk => ⟨h, hk⟩)
                    have z99 : w93.heap.size ≤ w99.heap.size := X99.size
                    refine .p rfl rfl (.mv rfl) ?_
                    refine .p rfl rfl (.extract rfl rfl) ?_
                    refine .p rfl rfl (.extract rfl rfl) ?_
                    refine .p rfl rfl (.as rfl) ?_
                    refine .p rfl rfl (.as rfl) ?_
                    refine .nil (.code (.seq (.seq (.keep [(21, _), (20, _), (19, _), (18, _), (17, _), (16, _), (15, _), (14, _), (13, _), (12, _), (9, _), (0, _), (1, _)] ⟨rfl, rfl, rfl, rfl, rfl, rfl, rfl, rfl, rfl, rfl, rfl, rfl, rfl, trivial⟩ (.region ?_)))))
                    refine .p rfl rfl (.mv rfl) ?_
                    refine .p rfl rfl (.eqS rfl rfl) ?_
                    refine .nil (.code (.keep [(103, _), (21, _), (20, _), (19, _), (18, _), (17, _), (16, _), (15, _), (14, _), (13, _), (12, _), (9, _), (0, _)] ⟨rfl, rfl, rfl, rfl, rfl, rfl, rfl, rfl, rfl, rfl, rfl, rfl, rfl, trivial⟩ ?_))
                    refine .meet (S := Value) (fun s => [(0, .slice al l.length cap), (9, .bool true), (12, v73), (13, i64 0), (14, v80), (15, i64 0), (16, v87), (17, i64 0), (18, s), (19, i64 0), (20, v99), (21, i64 0)]) (fun s => w99) (fun s => OwnO tEntry (fun _ => False) 33 w99 s (if a = [] then [] else l.filter (inK [] a)) (fun k => w87.heap.size ≤ k ∧ k < w93.heap.size)) ?_ ?_
                    · rintro v18 O93x
                      have Z63 := (X22.trans X26).trans X63
                      have Z99 := Z63.trans ((((X73.trans X80).trans X87).trans X93).trans X99)
                      have O73x := OwnO.ext0 O73 (((X80.trans X87).trans X93).trans X99)
                      have O80x := OwnO.ext0 O80 ((X87.trans X93).trans X99)
                      have O87x := OwnO.ext0 O87 (X93.trans X99)
                      have O99x := O99
                      have hf1 := hfl (inK a b)
                      have hf2 := hfl (inK b c)
                      have hf3 := hfl (inK a c)
                      have hf4 := hfl (inK c [])
                      have hf5 : (if a = [] then [] else l.filter (inK [] a)).length ≤ 4096 := by split; exact Nat.zero_le _; exact hfl _
                      refine .code (.seq (.region ?_))
                      refine .p rfl rfl (.mv rfl) ?_
                      refine .p rfl rfl (.mv rfl) ?_
                      refine .p rfl rfl (.mv rfl) ?_
                      refine .p rfl rfl (.yes (.eq rfl rfl) (rfl)) ?_
                      refine .p rfl rfl (.pickT rfl rfl) ?_
                      refine .p rfl rfl (.mv rfl) ?_
                      refine .p rfl rfl (.mv rfl) ?_
                      refine .p rfl rfl (.yes (.eq rfl rfl) (rfl)) ?_
                      refine .p rfl rfl (.pickT rfl rfl) ?_
                      refine .p rfl rfl (.mv rfl) ?_
                      refine .p rfl rfl (.mv rfl) ?_
                      refine .p rfl rfl (.yes (.eq rfl rfl) (rfl)) ?_
                      refine .p rfl rfl (.pickT rfl rfl) ?_
                      refine .p rfl rfl (.mv rfl) ?_
                      refine .p rfl rfl (.mv rfl) ?_
                      refine .p rfl rfl (.yes (.eq rfl rfl) (rfl)) ?_
                      refine .p rfl rfl (.pickT rfl rfl) ?_
                      refine .p rfl rfl (.mv rfl) ?_
                      refine .p rfl rfl (.mv rfl) ?_
                      refine .p rfl rfl (.yes (.eq rfl rfl) (rfl)) ?_
                      refine .p rfl rfl (.pickT rfl rfl) ?_
                      refine .p rfl rfl (.mv rfl) ?_
                      refine .p rfl rfl (.mv rfl) ?_
                      refine .p rfl rfl (.mv rfl) ?_
                      refine .v rfl rfl (.appendLo (t := tEntry) (Q := fun _ => False) (xs := (l.filter (inK (a) (b)))) (ys := (l.filter (inK (b) (c)))) (B := (fun k => (w63.heap.size ≤ k ∧ k < w73.heap.size) ∨ w99.heap.size ≤ k)) (eb := 48) rfl (OwnO.mono O73x (fun _ h _ => h) (fun k h _ => .inl h)) (fun k hk => .inr hk) rfl (Sl.holds (Q' := All) (OwnO.rep O80x (fun _ _ _ => trivial) (fun _ h _ => h.elim)) (fun _ _ h => entry_any h)) rfl rfl rfl rfl rfl rfl rfl (by (try simp only [List.length_append]); omega) (by simp only [List.length_append, Lim]; omega) (fun _ h _ => h.elim)) ?_
                      rintro r128 w128 ⟨O128, Y128⟩
                      refine .p rfl rfl (.mv rfl) ?_
                      refine .call (first := []) (captured := []) rfl rfl rfl rfl (Same9_fn (OwnO.rep O128 (fun _ _ _ => trivial) (fun _ h _ => h.elim)) (OwnO.rep (OwnO.ext O87x Y128 (fun k h _ e => by rcases e with e | e <;> omega) (fun _ h => h.elim)) (fun _ _ _ => trivial) (fun _ h _ => h.elim))) ?_
                      rintro _ w130 ⟨rfl, X130⟩
                      rw [decide_eq_true (parts_two hck hab hbc hbn hcn)]
                      have YY := Y128.trans (X130.mono (fun _ _ h => h.elim))
                      have O87y := OwnO.ext O87x YY (fun k h _ e => by rcases e with e | e <;> omega) (fun _ h => h.elim)
                      have O93y := OwnO.ext O93x YY (fun k h _ e => by rcases e with e | e <;> omega) (fun _ h => h.elim)
                      have O99y := OwnO.ext O99x YY (fun k h _ e => by rcases e with e | e <;> omega) (fun _ h => h.elim)
                      have zYY := YY.size
                      refine .p rfl rfl (.pickT rfl rfl) ?_
                      refine .p rfl rfl (.mv rfl) ?_
                      refine .p rfl rfl (.mv rfl) ?_
                      refine .p rfl rfl (.mv rfl) ?_
                      refine .v rfl rfl (.appendLo (t := tEntry) (Q := fun _ => False) (xs := (if a = [] then [] else l.filter (inK [] a))) (ys := (l.filter (inK (a) (c)))) (B := (fun k => (w87.heap.size ≤ k ∧ k < w93.heap.size) ∨ w130.heap.size ≤ k)) (eb := 48) rfl (OwnO.mono O93y (fun _ h _ => h) (fun k h _ => .inl h)) (fun k hk => .inr hk) rfl (Sl.holds (Q' := All) (OwnO.rep O87y (fun _ _ _ => trivial) (fun _ h _ => h.elim)) (fun _ _ h => entry_any h)) rfl rfl rfl rfl rfl rfl rfl (by (try simp only [List.length_append]); omega) (by simp only [List.length_append, Lim]; omega) (fun _ h _ => h.elim)) ?_
                      rintro r135 w135 ⟨O135, Y135⟩
                      refine .p rfl rfl (.mv rfl) ?_
                      refine .v rfl rfl (.appendLo (t := tEntry) (Q := fun _ => False) (xs := (if a = [] then [] else l.filter (inK [] a)) ++ (l.filter (inK (a) (c)))) (ys := (l.filter (inK (c) ([])))) (B := fun k => (w87.heap.size ≤ k ∧ k < w93.heap.size) ∨ w130.heap.size ≤ k) (eb := 48) rfl O135 (fun k hk => .inr (by have := Y135.size; omega)) rfl (Sl.holds (Q' := All) (OwnO.rep (OwnO.ext O99y Y135 (fun k h _ e => by rcases e with e | e <;> omega) (fun _ h => h.elim)) (fun _ _ _ => trivial) (fun _ h _ => h.elim)) (fun _ _ h => entry_any h)) rfl rfl rfl rfl rfl rfl rfl (by (try simp only [List.length_append]); omega) (by simp only [List.length_append, Lim]; omega) (fun _ h _ => h.elim)) ?_
                      rintro r137 w137 ⟨O137, Y137⟩
                      have Zf := ((Z99.then YY (fun k h _ => by rcases h with h | h <;> omega)).then Y135 (fun k h _ => by rcases h with h | h <;> omega)).then Y137 (fun k h _ => by rcases h with h | h <;> omega)
                      refine .p rfl rfl (.mv rfl) ?_
                      refine .call (first := []) (captured := []) rfl rfl rfl rfl (Same9_fn (OwnO.rep O137 (fun _ _ _ => trivial) (fun _ h _ => h.elim)) ((Sl tEntry).mono ((Sl tEntry).ext0 h Zf) (fun _ _ _ => trivial))) ?_
                      rintro _ w139 ⟨rfl, X139⟩
                      rw [decide_eq_true (parts_all hck hac hcn)]
                      refine .p rfl rfl (.pickT rfl rfl) ?_
                      refine .p rfl rfl (.as rfl) ?_
                      refine .nil (.code ?_)
                      refine .ret _ rfl ?_
                      exact ⟨rfl, (by repeat (first | exact Ext.refl _ | assumption | refine Ext.trans (by assumption) ?_))⟩
                    · intro meet
                      refine .condD rfl (fun c103 => ?_) (fun c103 => ?_)
                      · refine .keep [(21, _), (20, _), (19, _), (17, _), (16, _), (15, _), (14, _), (13, _), (12, _), (9, _), (0, _)] ⟨rfl, rfl, rfl, rfl, rfl, rfl, rfl, rfl, rfl, rfl, rfl, trivial⟩ (.region ?_)
                        refine .p rfl rfl (.as rfl) ?_
                        refine .nil ?_
                        exact (meet _ (by rw [if_pos c103]; exact OwnO.nil)).of ⟨rfl, rfl, rfl, rfl, rfl, rfl, rfl, rfl, rfl, rfl, rfl, rfl, trivial⟩
                      · refine .skip ?_
                        exact (meet _ (by rw [if_neg c103]; exact OwnO.ext0 O93 X99)).of ⟨rfl, rfl, rfl, rfl, rfl, rfl, rfl, rfl, rfl, rfl, rfl, rfl, trivial⟩
end Go.Proofs.Ythkgadhamecnlaa
