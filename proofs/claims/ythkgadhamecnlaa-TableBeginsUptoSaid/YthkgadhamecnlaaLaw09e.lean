
/-
  TableBegins: walked.
-/
import Derived.Test.YthkgadhamecnlaaLaw09b
set_option linter.unusedVariables false
set_option linter.unusedSimpArgs false
set_option maxRecDepth 20000
namespace Go.Proofs.Ythkgadhamecnlaa
open Go page table
namespace table
theorem parts_begin : ∀ (l acc : List Entry), (∀ j, 0 < j → j ≤ acc.length → (pageB (acc.take j)).length < 512) → ∀ i (h : i < (partsK acc l).length), (∀ j, 0 < j → j < (partsK acc l)[i].length → (pageB ((partsK acc l)[i].take j)).length < 512) ∧ (i + 1 < (partsK acc l).length → 512 ≤ (pageB (partsK acc l)[i]).length)
  | [], acc, hP => by
    by_cases h : acc = []
    · subst h
      intro i hi
      exact absurd hi (Nat.not_lt_zero _)
    · rw [partsK_nil h]
      intro i hi
      obtain rfl : i = 0 := by simp at hi; exact hi
      exact ⟨fun j h1 h2 => hP j h1 (Nat.le_of_lt h2), fun h => absurd h (by simp)⟩
  | x :: rest, acc, hP => by
    have hpre : ∀ j, 0 < j → j ≤ acc.length → (pageB ((acc ++ [x]).take j)).length < 512 := fun j h1 h2 => by
      rw [List.take_append_of_le_length h2]; exact hP j h1 h2
    by_cases h : rest = [] ∨ 512 ≤ (pageB (acc ++ [x])).length
    · rw [partsK_cut h]
      intro i hi
      cases i with
      | zero =>
        refine ⟨fun j h1 h2 => hpre j h1 (by have h2 : j < (acc ++ [x]).length := h2; rw [List.length_append, List.length_singleton] at h2; omega), fun h1 => ?_⟩
        rcases h with h | h
        · subst h
          exact absurd h1 (by simp [partsK])
        · exact h
      | succ i =>
        have hi : i < (partsK [] rest).length := by simpa using hi
        have ih := parts_begin rest [] (fun j h1 h2 => absurd h2 (by simp; omega)) i hi
        exact ⟨ih.1, fun h1 => ih.2 (by simpa using h1)⟩
    · rw [partsK_on h]
      refine parts_begin rest (acc ++ [x]) (fun j h1 h2 => ?_)
      by_cases hj : j ≤ acc.length
      · exact hpre j h1 hj
      · rw [List.take_of_length_le (by rw [List.length_append, List.length_singleton]; omega)]
        exact Nat.not_le.1 (fun hn => h (.inr hn))
theorem makeT_cap {l : List Entry} (h1 : checkE l = 0) (h2 : ¬ l = []) (h3 : ¬ (makeT l).2 = 0) : (makeT l).2 = 7 := by
  unfold makeT at h3 ⊢
  rw [if_neg (fun hn => hn h1), if_neg h2] at h3 ⊢
  split
  · rfl
  · rename_i hs; rw [if_neg hs] at h3; exact absurd rfl h3
theorem made_open {l : List Entry} (h : (makeT l).2 = 0) : openF (makeT l).1 = some ((partF l).map rowOf) := open_back (Prod.ext rfl h)
theorem pages_made {l : List Entry} (h : (makeT l).2 = 0) : pagesT (makeT l).1 = ((partF l).length, 0) := by
  unfold pagesT
  rw [made_open h]
  simp
theorem fst_flat {q : List Entry} {r : List (List Entry)} (hq : q ≠ []) : fstK (q :: r).flatten = fstK q := by
  cases q with
  | nil => exact absurd rfl hq
  | cons x q => rfl
theorem lst_app {a q : List Entry} (hq : q ≠ []) : lstK (a ++ q) = lstK q := by
  unfold lstK
  rw [List.getLastD_eq_getLast?, List.getLastD_eq_getLast?, List.getLast?_append]
  cases e : q.getLast? with
  | none => exact absurd (List.getLast?_eq_none_iff.1 e) hq
  | some z => rfl
theorem ends_made {l : List Entry} (h : (makeT l).2 = 0) (hp : 0 < l.length) : endsT (makeT l).1 = (l[0].key, l[l.length - 1].key, 0) := by
  have hck := (makeT_ok (l := l) (Prod.ext rfl h)).1
  have hne : partF l ≠ [] := partF_ne (List.length_pos_iff.1 hp)
  have hpl := List.length_pos_iff.2 hne
  unfold endsT
  rw [made_open h]
  simp only [List.length_map]
  rw [List.getD_eq_getElem?_getD, List.getD_eq_getElem?_getD, List.getElem?_map, List.getElem?_map, List.getElem?_eq_getElem hpl, List.getElem?_eq_getElem (show (partF l).length - 1 < (partF l).length by omega), ← fst_eq hp, ← lst_eq hp]
  have e1 : fstK l = fstK (partF l)[0] := by
    have h0 : partF l = (partF l)[0] :: (partF l).drop 1 := by
      have := List.drop_eq_getElem_cons hpl
      simpa using this
    conv => lhs; rw [← part_flat l, h0]
    exact fst_flat (partF_mem hck _ (List.getElem_mem hpl)).1
  have e2 : lstK l = lstK (partF l)[(partF l).length - 1] := by
    have h0 : partF l = (partF l).take ((partF l).length - 1) ++ [(partF l)[(partF l).length - 1]] := by
      rw [← List.take_succ_eq_append_getElem (by omega), List.take_of_length_le (by omega)]
    have h1 : l = ((partF l).take ((partF l).length - 1)).flatten ++ (partF l)[(partF l).length - 1] := by
      conv => lhs; rw [← part_flat l, h0]
      rw [List.flatten_append]; simp
    conv => lhs; rw [h1]
    exact lst_app (partF_mem hck _ (List.getElem_mem (by omega))).1
  rw [e1, e2]
  rfl
def atN (ps : List (List Entry)) (i : Nat) : Nat := ((ps.take i).flatten).length
theorem atN_succ {ps : List (List Entry)} {i : Nat} (h : i < ps.length) : atN ps (i + 1) = atN ps i + ps[i].length := by
  unfold atN
  rw [List.take_succ_eq_append_getElem h, List.flatten_append, List.length_append]; simp
theorem atN_all (l : List Entry) : atN (partF l) (partF l).length = l.length := by unfold atN; rw [List.take_length, part_flat]
theorem atN_le (l : List Entry) (i : Nat) : atN (partF l) i ≤ l.length := by
  have h : l = ((partF l).take i).flatten ++ ((partF l).drop i).flatten := by
    conv => lhs; rw [← part_flat l, ← List.take_append_drop i (partF l)]
    rw [List.flatten_append]
  have := congrArg List.length h
  rw [List.length_append] at this
  unfold atN
  omega
theorem cut_at {l : List Entry} {i m : Nat} (hi : i < (partF l).length) (hm : m ≤ (partF l)[i].length) : (l.take (atN (partF l) i + m)).drop (atN (partF l) i) = (partF l)[i].take m := by
  have h : l = ((partF l).take i).flatten ++ ((partF l)[i] ++ ((partF l).drop (i + 1)).flatten) := by
    conv => lhs; rw [← part_flat l, ← List.take_append_drop i (partF l), List.drop_eq_getElem_cons hi]
    rw [List.flatten_append, List.flatten_cons]
  have key : ∀ (A q C l : List Entry), l = A ++ (q ++ C) → m ≤ q.length → (l.take (A.length + m)).drop A.length = q.take m := fun A q C l h hm => by
    rw [h, List.take_length_add_append, List.drop_left, List.take_append_of_le_length hm]
  exact key _ _ _ _ h hm
/-- what is left of a table behind its first pages -/
def leftB (l : List Entry) (i : Nat) : Bs := (((partF l).drop i).map pageB).flatten ++ (tableB l).drop (pagesB (partF l)).length
theorem left_zero (l : List Entry) : leftB l 0 = tableB l := by
  unfold leftB
  rw [List.drop_zero]
  have e : tableB l = pagesB (partF l) ++ (indexB (partF l) ++ sieveB l ++ put8 (pagesB (partF l)).length ++ put8 (indexB (partF l)).length ++ put8 (sieveB l).length ++ sum4 (preT l)) := by
    conv => lhs; unfold tableB
    conv => lhs; lhs; unfold preT
    simp only [List.append_assoc]
  have e2 : (tableB l).drop (pagesB (partF l)).length = indexB (partF l) ++ sieveB l ++ put8 (pagesB (partF l)).length ++ put8 (indexB (partF l)).length ++ put8 (sieveB l).length ++ sum4 (preT l) := by
    conv => lhs; rw [e]
    exact List.drop_left
  rw [e2]
  exact e.symm
theorem left_succ {l : List Entry} {i : Nat} (h : i < (partF l).length) : leftB l i = pageB (partF l)[i] ++ leftB l (i + 1) := by
  unfold leftB
  rw [List.drop_eq_getElem_cons h, List.map_cons, List.flatten_cons, List.append_assoc]
end table
set_option maxHeartbeats 1000000 in
theorem TableBegins_fn {w : World} {v : Value} {l : List Entry} (h : (Sl tEntry).rep All w v l) (hb : l.length ≤ 1048576) : Fn Try.prog 6 [v] w (fun r w2 => r = .bool true ∧ Ext (fun _ => False) w w2) := by
  obtain ⟨a, cap, rfl, hcap⟩ := Sl.val h
  refine Fn.enter (fun w => Try.call6 _ w) Try.func6 rfl ?_
  refine .seq (.region ?_)
  refine .p rfl rfl (.as rfl) ?_
  refine .nil (.code (.seq (.keep [(0, _)] ⟨rfl, trivial⟩ (.region ?_))))
  refine .call (first := []) (captured := []) rfl rfl rfl rfl (alive9_fn) ?_
  rintro _ w16 ⟨rfl, X16⟩
  refine .p rfl rfl (.as rfl) ?_
  refine .nil (.code (.seq (.seq (.keep [(3, _), (0, _)] ⟨rfl, rfl, trivial⟩ (.region ?_)))))
  refine .p rfl rfl (.mv rfl) ?_
  refine .p rfl rfl (.not rfl) ?_
  refine .nil (.code (.keep [(18, _), (3, _), (0, _)] ⟨rfl, rfl, rfl, trivial⟩ (.condF rfl (.skip (.code (.seq (.seq (.keep [(3, _), (0, _)] ⟨rfl, rfl, trivial⟩ (.region ?_)))))))))
  refine .p rfl rfl (.mv rfl) ?_
  refine .call (first := []) (captured := []) rfl rfl rfl rfl (hvy_fn ((Sl tEntry).ext0 h X16) hb) ?_
  rintro _ w20 ⟨⟨q, rfl⟩, X20⟩
  refine .nil (.code (.keep [(20, _), (3, _), (0, _)] ⟨rfl, rfl, rfl, trivial⟩ ?_))
  refine .cond rfl (fun c20 => ?_) (fun c20 => ?_)
  · refine .seq (.keep [(3, _)] ⟨rfl, trivial⟩ (.region ?_))
    refine .p rfl rfl (.mv rfl) ?_
    refine .p rfl rfl (.as rfl) ?_
    refine .nil (.code ?_)
    refine .ret _ rfl ?_
    exact ⟨rfl, (by repeat (first | exact Ext.refl _ | assumption | refine Ext.trans (by assumption) ?_))⟩
  · refine .skip (.code (.seq (.keep [(3, _), (0, _)] ⟨rfl, rfl, trivial⟩ (.region ?_))))
    refine .p rfl rfl (.mv rfl) ?_
    refine .call (first := []) (captured := []) rfl rfl rfl rfl (TMake_fn ((Sl tEntry).ext0 h (by repeat (first | exact Ext.refl _ | assumption | refine Ext.trans (by assumption) ?_)))) ?_
    rintro _ w24 ⟨v24, rfl, G24, X24⟩
    have Z24 := (X16.trans X20).trans X24
    refine .p rfl rfl (.mv rfl) ?_
    refine .p rfl rfl (.extract rfl rfl) ?_
    refine .p rfl rfl (.extract rfl rfl) ?_
    refine .p rfl rfl (.as rfl) ?_
    refine .p rfl rfl (.as rfl) ?_
    refine .nil (.code (.seq (.seq (.keep [(5, _), (4, _), (3, _), (0, _)] ⟨rfl, rfl, rfl, rfl, trivial⟩ (.region ?_)))))
    refine .p rfl rfl (.mv rfl) ?_
    refine .p rfl rfl (.ne rfl rfl) ?_
    refine .nil (.code (.keep [(28, _), (5, _), (4, _), (3, _), (0, _)] ⟨rfl, rfl, rfl, rfl, rfl, trivial⟩ ?_))
    refine .condD rfl (fun c28 => ?_) (fun c28 => ?_)
    · refine .seq (.keep [(5, _), (3, _), (0, _)] ⟨rfl, rfl, rfl, trivial⟩ (.region ?_))
      refine .p rfl rfl (.mv rfl) ?_
      refine .p rfl rfl (.mv rfl) ?_
      refine .p rfl rfl (.mv rfl) ?_
      refine .call (first := []) (captured := []) rfl rfl rfl rfl (Check_fn ((Sl tEntry).ext0 h Z24)) ?_
      rintro _ w32 ⟨rfl, X32⟩
      refine .p rfl rfl (.ne rfl rfl) ?_
      refine .p rfl rfl (.mv rfl) ?_
      refine .caseD 34 rfl (fun c34 => ?_) (fun c34 => ?_)
      · refine .skip rfl rfl ?_
        refine .skip rfl rfl ?_
        refine .skip rfl rfl ?_
        refine .p rfl rfl (.pickT rfl rfl) ?_
        refine .p rfl rfl (.mv rfl) ?_
        refine .skip rfl rfl ?_
        refine .skip rfl rfl ?_
        refine .p rfl rfl (.pickT rfl rfl) ?_
        refine .p rfl rfl (.pickT rfl rfl) ?_
        refine .p rfl rfl (.as rfl) ?_
        refine .nil (.code ?_)
        refine .ret _ rfl ?_
        exact ⟨rfl, (by repeat (first | exact Ext.refl _ | assumption | refine Ext.trans (by assumption) ?_))⟩
      · refine .p rfl rfl (.mv rfl) ?_
        refine .p rfl rfl (.len rfl rfl) ?_
        refine .p rfl rfl (.eq rfl rfl) ?_
        refine .p rfl rfl (.pickF rfl rfl) ?_
        refine .p rfl rfl (.mv rfl) ?_
        refine .caseD 39 rfl (fun c39 => ?_) (fun c39 => ?_)
        · refine .skip rfl rfl ?_
          refine .skip rfl rfl ?_
          refine .p rfl rfl (.pickT rfl rfl) ?_
          refine .p rfl rfl (.pickT rfl rfl) ?_
          refine .p rfl rfl (.as rfl) ?_
          refine .nil (.code ?_)
          refine .ret _ rfl ?_
          exact ⟨rfl, (by repeat (first | exact Ext.refl _ | assumption | refine Ext.trans (by assumption) ?_))⟩
        · refine .p rfl rfl (.mv rfl) ?_
          refine .p rfl rfl (.yes (.eq rfl rfl) (makeT_cap (Decidable.not_not.1 c34) (fun e => c39 (by rw [e]; rfl)) c28)) ?_
          refine .p rfl rfl (.pickF rfl rfl) ?_
          refine .p rfl rfl (.pickT rfl rfl) ?_
          refine .p rfl rfl (.as rfl) ?_
          refine .nil (.code ?_)
          refine .ret _ rfl ?_
          exact ⟨rfl, (by repeat (first | exact Ext.refl _ | assumption | refine Ext.trans (by assumption) ?_))⟩
    · have he0 : (makeT l).2 = 0 := Decidable.not_not.1 c28
      obtain ⟨hck, hlne, htb, htl⟩ := makeT_ok (l := l) (b := (makeT l).1) (Prod.ext rfl he0)
      have hlp := List.length_pos_iff.2 hlne
      have hl4 := (check_ok hck).1
      have hmany := parts_many l []
      have hpfl : (partF l).length ≤ 4097 := by unfold partF; omega
      refine .skip (.code (.seq (.keep [(4, _), (3, _), (0, _)] ⟨rfl, rfl, rfl, trivial⟩ (.region ?_))))
      refine .p rfl rfl (.mv rfl) ?_
      refine .call (first := []) (captured := []) rfl rfl rfl rfl (TPages_fn (Gr.rep G24)) ?_
      rintro _ w46 ⟨rfl, X46⟩
      rw [pages_made he0]
      refine .p rfl rfl (.mv rfl) ?_
      refine .p rfl rfl (.extract rfl rfl) ?_
      refine .p rfl rfl (.extract rfl rfl) ?_
      refine .p rfl rfl (.as rfl) ?_
      refine .p rfl rfl (.as rfl) ?_
      refine .nil (.code (.seq (.keep [(7, _), (6, _), (4, _), (3, _), (0, _)] ⟨rfl, rfl, rfl, rfl, rfl, trivial⟩ (.region ?_))))
      refine .p rfl rfl (.mv rfl) ?_
      refine .call (first := []) (captured := []) rfl rfl rfl rfl (TEnds_fn (Gr.rep (Gr.ext0 G24 X46))) ?_
      rintro _ w51 ⟨rfl, X51⟩
      rw [ends_made he0 hlp]
      have Z51 := (Z24.trans X46).trans X51
      obtain ⟨ba, oa, rfl⟩ : ∃ ba oa, a = some ⟨ba, oa, none⟩ := by
        obtain ⟨b0, o0, q0, ue0, e0, _⟩ := Sl.at h (i := 0) (List.getElem?_eq_getElem hlp)
        injection e0 with ea
        exact ⟨b0, o0, ea⟩
      obtain ⟨b0, o0, q0, ue0, e0, _, hcs0, hre0⟩ := Sl.at h (i := 0) (List.getElem?_eq_getElem hlp)
      cases e0
      obtain ⟨rfl, _⟩ := tEntry.val hre0
      obtain ⟨b1, o1, q1, ue1, e1, _, hcs1, hre1⟩ := Sl.at h (i := l.length - 1) (List.getElem?_eq_getElem (by omega))
      cases e1
      obtain ⟨rfl, _⟩ := tEntry.val hre1
      refine .p rfl rfl (.mv rfl) ?_
      refine .p rfl rfl (.extract rfl rfl) ?_
      refine .p rfl rfl (.extract rfl rfl) ?_
      refine .p rfl rfl (.extract rfl rfl) ?_
      refine .p rfl rfl (.as rfl) ?_
      refine .p rfl rfl (.as rfl) ?_
      refine .p rfl rfl (.as rfl) ?_
      refine .nil (.code (.seq (.seq (.keep [(10, _), (9, _), (8, _), (7, _), (6, _), (4, _), (3, _), (0, _)] ⟨rfl, rfl, rfl, rfl, rfl, rfl, rfl, rfl, trivial⟩ (.region ?_)))))
      refine .p rfl rfl (.mv rfl) ?_
      refine .p rfl rfl (.no (.ne rfl rfl) (fun hn => hn rfl)) ?_
      refine .p rfl rfl (.mv rfl) ?_
      refine .p rfl rfl (.mv rfl) ?_
      refine .p rfl rfl (.no (.ne rfl rfl) (fun hn => hn rfl)) ?_
      refine .p rfl rfl (.pickF rfl rfl) ?_
      refine .p rfl rfl (.mv rfl) ?_
      refine .p rfl rfl (.mv rfl) ?_
      refine .p rfl rfl (.no (.lt rfl rfl) (by have := List.length_pos_iff.2 (partF_ne (List.length_pos_iff.1 hlp)); omega)) ?_
      refine .p rfl rfl (.pickF rfl rfl) ?_
      refine .p rfl rfl (.mv rfl) ?_
      refine .p rfl rfl (.mv rfl) ?_
      refine .p rfl rfl (.mv rfl) ?_
      refine .p rfl rfl (.indexAddr (s := 4) rfl rfl rfl rfl (by omega)) ?_
      refine .p rfl rfl (.fieldAddr rfl rfl rfl rfl) ?_
      refine .p rfl rfl (.load rfl rfl rfl ((hcs0.ext Z51 (fun x => x)) 0 _ rfl)) ?_
      refine .p rfl rfl (.no (.neS rfl rfl) (fun hn => hn rfl)) ?_
      refine .p rfl rfl (.pickF rfl rfl) ?_
      refine .p rfl rfl (.mv rfl) ?_
      refine .p rfl rfl (.mv rfl) ?_
      refine .p rfl rfl (.mv rfl) ?_
      refine .p rfl rfl (.mv rfl) ?_
      refine .p rfl rfl (.len rfl rfl) ?_
      refine .p rfl rfl (.sub rfl rfl (by omega)) ?_
      refine .p rfl rfl (.indexAddr (s := 4) rfl rfl rfl rfl (by omega)) ?_
      refine .p rfl rfl (.fieldAddr rfl rfl rfl rfl) ?_
      refine .p rfl rfl (.load rfl rfl rfl (by rw [show ((l.length : Int) - 1).toNat = l.length - 1 by omega]; exact (hcs1.ext Z51 (fun x => x)) 0 _ rfl)) ?_
      refine .p rfl rfl (.no (.neS rfl rfl) (fun hn => hn rfl)) ?_
      refine .p rfl rfl (.pickF rfl rfl) ?_
      refine .nil (.code (.keep [(83, _), (6, _), (4, _), (3, _), (0, _)] ⟨rfl, rfl, rfl, rfl, rfl, trivial⟩ (.condF rfl (.skip (.code (.seq (.keep [(6, _), (4, _), (3, _), (0, _)] ⟨rfl, rfl, rfl, rfl, trivial⟩ (.region ?_))))))))
      refine .p rfl rfl (.as rfl) ?_
      refine .nil (.code (.seq (.seq (.region ?_))))
      refine .p rfl rfl (.as rfl) ?_
      refine .nil (.code (.block ?_))
      refine .loop (S := Nat × Value × World) (fun s => [(0, .slice (some ⟨ba, oa, none⟩) l.length cap), (3, .bool true), (4, s.2.1), (6, i64 (((partF l).length : Nat) : Int)), (11, i64 ((atN (partF l) s.1 : Nat) : Int)), (12, i64 s.1)]) (fun s => s.2.2) (fun s => s.1 ≤ (partF l).length ∧ tBytes.rep All s.2.2 s.2.1 (leftB l s.1) ∧ Ext (fun _ => False) w s.2.2) (fun s => (partF l).length - s.1) (0, _, w51) ⟨rfl, rfl, rfl, rfl, rfl, rfl, trivial⟩ rfl ⟨Nat.zero_le _, by show tBytes.rep All w51 _ (leftB l 0); rw [left_zero, ← htb]; exact tBytes.ext0 (Gr.rep G24) (X46.trans X51), Z51⟩ ?_
      rintro ⟨i, v4, wi⟩ J ⟨hi', hR, hX⟩ again
      simp only at hi' hR hX
      change G _ [(0, .slice (some ⟨ba, oa, none⟩) l.length cap), (3, .bool true), (4, v4), (6, i64 (((partF l).length : Nat) : Int)), (11, i64 ((atN (partF l) i : Nat) : Int)), (12, i64 i)] _ _ wi
      refine .seq (.seq (.region ?_))
      refine .p rfl rfl (.mv rfl) ?_
      refine .p rfl rfl (.mv rfl) ?_
      refine .p rfl rfl (.lt rfl rfl) ?_
      refine .nil (.code (.keep [(86, _), (0, _), (3, _), (4, _), (6, _), (11, _), (12, _)] ⟨rfl, rfl, rfl, rfl, rfl, rfl, rfl, trivial⟩ ?_))
      refine .condD rfl (fun c86 => ?_) (fun c86 => ?_)
      · obtain ⟨a4, c4, rfl, hc4⟩ := Sl.val hR
        have hi : i < (partF l).length := by omega
        have hm := partF_mem hck _ (List.getElem_mem hi)
        have hq0 := List.length_pos_iff.2 hm.1
        have has := atN_succ hi
        have hal := atN_le l (i + 1)
        have hpb := parts_begin l [] (fun j h1 h2 => absurd h2 (by simp; omega)) i hi
        have hps : ∀ j, 0 < j → (pageB ((partF l)[i].take j)).length ≤ 65536 := fun j hj => by
          by_cases h2 : j < (partF l)[i].length
          · have h3 : (pageB ((partF l)[i].take j)).length < 512 := hpb.1 j hj h2
            omega
          · rw [List.take_of_length_le (by omega)]; omega
        obtain ⟨a98, c98, hv98, hc98, R98⟩ := Sl.cutE ((Sl tEntry).ext0 h hX) (atN (partF l) i) (atN (partF l) i + 1) (by omega) (by omega)
        refine .skip (.code (.seq (.block (.seq (.keep [(0, _), (3, _), (4, _), (6, _), (11, _), (12, _)] ⟨rfl, rfl, rfl, rfl, rfl, rfl, trivial⟩ (.region ?_))))))
        refine .p rfl rfl (.mv rfl) ?_
        refine .p rfl rfl (.add rfl rfl (by omega)) ?_
        refine .p rfl rfl (.as rfl) ?_
        refine .nil (.code (.seq (.keep [(13, _), (0, _), (3, _), (4, _), (6, _), (11, _), (12, _)] ⟨rfl, rfl, rfl, rfl, rfl, rfl, rfl, trivial⟩ (.region ?_))))
        refine .p rfl rfl (.mv rfl) ?_
        refine .p rfl rfl (.mv rfl) ?_
        refine .p rfl rfl (.mv rfl) ?_
        refine .p rfl rfl (.mv rfl) ?_
        refine .p rfl rfl (.len rfl rfl) ?_
        refine .p rfl rfl (.cast (.min2 rfl rfl) (show _ = i64 (((atN (partF l) i + 1 : Nat)) : Int) from congrArg i64 (by omega))) ?_
        refine .p rfl rfl (.cast (.cut (s := 4) rfl rfl rfl rfl rfl (by omega)) (show cutV 4 (some ⟨ba, oa, none⟩) cap ((atN (partF l) i : Nat) : Int).toNat ((atN (partF l) i + 1 : Nat) : Int).toNat = _ from hv98)) ?_
        refine .call (first := []) (captured := []) rfl rfl rfl rfl (Make_fn ((Sl tEntry).mono R98 (fun _ _ _ => trivial))) ?_
        rintro _ w99 ⟨v99, rfl, G99, X99⟩
        have em99 : makeE ((l.take (atN (partF l) i + 1)).drop (atN (partF l) i)) = (pageB ((partF l)[i].take (1)), 0) := by rw [make_small (check_take hck _ _) (by rw [cut_at hi (by omega)]; exact hps _ (by omega)), cut_at hi (by omega)]
        have G99 : Gr w99 v99 (pageB ((partF l)[i].take (1))) wi.heap.size := by rw [em99] at G99; exact G99
        rw [show (makeE ((l.take (atN (partF l) i + 1)).drop (atN (partF l) i))).2 = 0 by rw [em99]]
        refine .p rfl rfl (.mv rfl) ?_
        refine .p rfl rfl (.extract rfl rfl) ?_
        refine .p rfl rfl (.extract rfl rfl) ?_
        refine .p rfl rfl (.as rfl) ?_
        refine .p rfl rfl (.as rfl) ?_
        refine .nil (.code (.seq (.block (.keep [(15, _), (14, _), (13, _), (0, _), (3, _), (4, _), (6, _), (11, _), (12, _)] ⟨rfl, rfl, rfl, rfl, rfl, rfl, rfl, rfl, rfl, trivial⟩ ?_))))
        refine .loop (S := Nat × Value × World) (fun s => [(0, .slice (some ⟨ba, oa, none⟩) l.length cap), (3, .bool true), (4, .slice a4 (leftB l i).length c4), (6, i64 (((partF l).length : Nat) : Int)), (11, i64 ((atN (partF l) i : Nat) : Int)), (12, i64 i), (13, i64 ((atN (partF l) i + s.1 : Nat) : Int)), (14, s.2.1), (15, i64 0)]) (fun s => s.2.2) (fun s => 0 < s.1 ∧ s.1 ≤ (partF l)[i].length ∧ Gr s.2.2 s.2.1 (pageB ((partF l)[i].take s.1)) 0 ∧ Ext (fun _ => False) wi s.2.2) (fun s => (partF l)[i].length - s.1) (1, v99, w99) ⟨rfl, rfl, rfl, rfl, rfl, rfl, rfl, rfl, rfl, trivial⟩ rfl ⟨Nat.one_pos, hq0, Gr.low G99 (Nat.zero_le _), X99⟩ ?_
        rintro ⟨m, v14, wj⟩ J2 ⟨hm1, hm2, G14, hXj⟩ again2
        simp only at hm1 hm2 G14 hXj
        have hpz := hps m hm1
        change G _ [(0, .slice (some ⟨ba, oa, none⟩) l.length cap), (3, .bool true), (4, .slice a4 (leftB l i).length c4), (6, i64 (((partF l).length : Nat) : Int)), (11, i64 ((atN (partF l) i : Nat) : Int)), (12, i64 i), (13, i64 ((atN (partF l) i + m : Nat) : Int)), (14, v14), (15, i64 0)] _ _ wj
        refine .seq (.seq (.region ?_))
        refine .p rfl rfl (.mv rfl) ?_
        obtain ⟨a14, c14, rfl, hc14⟩ := OwnO.val G14
        refine .p rfl rfl (.yes (.eq rfl rfl) (rfl)) ?_
        refine .p rfl rfl (.mv rfl) ?_
        refine .p rfl rfl (.mv rfl) ?_
        refine .p rfl rfl (.len rfl rfl) ?_
        refine .p rfl rfl (.lt rfl rfl) ?_
        refine .p rfl rfl (.pickT rfl rfl) ?_
        refine .p rfl rfl (.mv rfl) ?_
        refine .caseD 109 rfl (fun c109 => ?_) (fun c109 => ?_)
        · refine .p rfl rfl (.mv rfl) ?_
          refine .p rfl rfl (.mv rfl) ?_
          refine .p rfl rfl (.len rfl rfl) ?_
          refine .p rfl rfl (.lt rfl rfl) ?_
          refine .p rfl rfl (.pickT rfl rfl) ?_
          refine .nil (.code (.keep [(114, _), (0, _), (3, _), (4, _), (6, _), (11, _), (12, _), (13, _), (14, _), (15, _)] ⟨rfl, rfl, rfl, rfl, rfl, rfl, rfl, rfl, rfl, rfl, trivial⟩ ?_))
          refine .condD rfl (fun c114 => ?_) (fun c114 => ?_)
          · have hmq : m < (partF l)[i].length := by
              refine Nat.lt_of_le_of_ne hm2 (fun e => ?_)
              by_cases hlast : i + 1 < (partF l).length
              · have h5 := hpb.2 hlast
                have h6 : (pageB ((partF l)[i].take m)).length = (pageB (partF l)[i]).length := by rw [e, List.take_length]
                have h5 : 512 ≤ (pageB (partF l)[i]).length := h5
                omega
              · have h5 : i + 1 = (partF l).length := by omega
                have h6 := atN_all l
                rw [← h5] at h6
                omega
            obtain ⟨a121, c121, hv121, hc121, R121⟩ := Sl.cutE ((Sl tEntry).ext0 h (hX.trans hXj)) (atN (partF l) i) (atN (partF l) i + (m + 1)) (by omega) (by omega)
            refine .skip (.code (.block (.seq (.keep [(0, _), (3, _), (4, _), (6, _), (11, _), (12, _), (13, _)] ⟨rfl, rfl, rfl, rfl, rfl, rfl, rfl, trivial⟩ (.region ?_)))))
            refine .p rfl rfl (.mv rfl) ?_
            refine .p rfl rfl (.add rfl rfl (by omega)) ?_
            refine .p rfl rfl (.as rfl) ?_
            refine .nil (.code (.keep [(13, _), (0, _), (3, _), (4, _), (6, _), (11, _), (12, _)] ⟨rfl, rfl, rfl, rfl, rfl, rfl, rfl, trivial⟩ (.region ?_)))
            refine .p rfl rfl (.mv rfl) ?_
            refine .p rfl rfl (.mv rfl) ?_
            refine .p rfl rfl (.mv rfl) ?_
            refine .p rfl rfl (.cast (.cut (s := 4) rfl rfl rfl rfl rfl (by omega)) (show cutV 4 (some ⟨ba, oa, none⟩) cap ((atN (partF l) i : Nat) : Int).toNat ((atN (partF l) i + m : Nat) + 1 : Int).toNat = _ from hv121)) ?_
            refine .call (first := []) (captured := []) rfl rfl rfl rfl (Make_fn ((Sl tEntry).mono R121 (fun _ _ _ => trivial))) ?_
            rintro _ w122 ⟨v122, rfl, G122, X122⟩
            have em122 : makeE ((l.take (atN (partF l) i + (m + 1))).drop (atN (partF l) i)) = (pageB ((partF l)[i].take ((m + 1))), 0) := by rw [make_small (check_take hck _ _) (by rw [cut_at hi (by omega)]; exact hps _ (by omega)), cut_at hi (by omega)]
            have G122 : Gr w122 v122 (pageB ((partF l)[i].take ((m + 1)))) wj.heap.size := by rw [em122] at G122; exact G122
            rw [show (makeE ((l.take (atN (partF l) i + (m + 1))).drop (atN (partF l) i))).2 = 0 by rw [em122]]
            refine .p rfl rfl (.mv rfl) ?_
            refine .p rfl rfl (.extract rfl rfl) ?_
            refine .p rfl rfl (.extract rfl rfl) ?_
            refine .p rfl rfl (.as rfl) ?_
            refine .p rfl rfl (.as rfl) ?_
            refine .nil (.blk ?_)
            exact (again2 (m + 1, v122, w122) ⟨Nat.succ_pos _, hmq, Gr.low G122 (Nat.zero_le _), hXj.trans X122⟩ (by show _ - (m + 1) < _ - m; omega)).of ⟨rfl, rfl, rfl, rfl, rfl, rfl, rfl, rfl, rfl, trivial⟩
          · obtain rfl : m = (partF l)[i].length := by omega
            rw [List.take_length] at G14 ⊢
            have hlen := congrArg List.length (left_succ hi)
            rw [List.length_append] at hlen
            obtain ⟨a144, c144, hv144, hc144, R144⟩ := Sl.cutH (tBytes.ext0 hR hXj) (pageB (partF l)[i]).length (by omega)
            obtain ⟨a153, c153, hv153, hc153, R153⟩ := Sl.cutL (tBytes.ext0 hR hXj) (pageB (partF l)[i]).length (by omega)
            have R153 : tBytes.rep All wj (.slice a153 ((leftB l i).length - (pageB (partF l)[i]).length) c153) (leftB l (i + 1)) := by rw [left_succ hi, List.drop_left] at R153; rw [left_succ hi]; exact R153
            refine .exit rfl (.code (.seq (.seq (.keep [(0, _), (3, _), (4, _), (6, _), (11, _), (12, _), (13, _), (14, _), (15, _)] ⟨rfl, rfl, rfl, rfl, rfl, rfl, rfl, rfl, rfl, trivial⟩ (.draws (by kernel_rfl) (by kernel_rfl) ?_)))))
            refine .p rfl rfl (.mv rfl) ?_
            refine .p rfl rfl (.no (.ne rfl rfl) (fun hn => hn rfl)) ?_
            refine .p rfl rfl (.mv rfl) ?_
            refine .p rfl rfl (.mv rfl) ?_
            refine .p rfl rfl (.mv rfl) ?_
            refine .p rfl rfl (.len rfl rfl) ?_
            refine .p rfl rfl (.no (.ge rfl rfl) (by omega)) ?_
            refine .p rfl rfl (.pickF rfl rfl) ?_
            refine .p rfl rfl (.mv rfl) ?_
            refine .p rfl rfl (.mv rfl) ?_
            refine .p rfl rfl (.len rfl rfl) ?_
            refine .p rfl rfl (.mv rfl) ?_
            refine .p rfl rfl (.len rfl rfl) ?_
            refine .p rfl rfl (.no (.lt rfl rfl) (by omega)) ?_
            refine .p rfl rfl (.pickF rfl rfl) ?_
            refine .p rfl rfl (.mv rfl) ?_
            refine .p rfl rfl (.mv rfl) ?_
            refine .p rfl rfl (.mv rfl) ?_
            refine .p rfl rfl (.len rfl rfl) ?_
            refine .p rfl rfl (.cast (.cutHi (s := 1) rfl rfl rfl rfl (by omega)) (show cutV 1 a4 c4 0 (((pageB (partF l)[i]).length : Nat) : Int).toNat = _ from hv144)) ?_
            refine .p rfl rfl (.bytesStr rfl R144 rfl rfl rfl) ?_
            refine .p rfl rfl (.mv rfl) ?_
            refine .p rfl rfl (.bytesStr rfl (Gr.rep G14) rfl rfl rfl) ?_
            refine .p rfl rfl (.no (.neS rfl rfl) (fun hn => hn (by rw [left_succ hi, List.take_left]))) ?_
            refine .p rfl rfl (.pickF rfl rfl) ?_
            refine .nil (.code (.keep [(149, _), (0, _), (3, _), (4, _), (6, _), (12, _), (13, _), (14, _)] ⟨rfl, rfl, rfl, rfl, rfl, rfl, rfl, rfl, trivial⟩ (.condF rfl (.skip (.code (.seq (.keep [(0, _), (3, _), (4, _), (6, _), (12, _), (13, _), (14, _)] ⟨rfl, rfl, rfl, rfl, rfl, rfl, rfl, trivial⟩ (.region ?_))))))))
            refine .p rfl rfl (.mv rfl) ?_
            refine .p rfl rfl (.mv rfl) ?_
            refine .p rfl rfl (.len rfl rfl) ?_
            refine .p rfl rfl (.cast (.cutLo (s := 1) rfl rfl rfl rfl (by omega)) (show cutV 1 a4 c4 (((pageB (partF l)[i]).length : Nat) : Int).toNat (leftB l i).length = _ from hv153)) ?_
            refine .p rfl rfl (.as rfl) ?_
            refine .nil (.code (.keep [(4, _), (0, _), (3, _), (6, _), (12, _), (13, _)] ⟨rfl, rfl, rfl, rfl, rfl, rfl, trivial⟩ (.region ?_)))
            refine .p rfl rfl (.mv rfl) ?_
            refine .p rfl rfl (.as rfl) ?_
            refine .nil (.blk (.code (.keep [(11, _), (4, _), (0, _), (3, _), (6, _), (12, _)] ⟨rfl, rfl, rfl, rfl, rfl, rfl, trivial⟩ (.region ?_))))
            refine .p rfl rfl (.mv rfl) ?_
            refine .p rfl rfl (.add rfl rfl (by omega)) ?_
            refine .p rfl rfl (.as rfl) ?_
            refine .nil ?_
            exact (again (i + 1, _, wj) ⟨by show i + 1 ≤ _; omega, R153, hX.trans hXj⟩ (by show _ - (i + 1) < _ - i; omega)).of ⟨rfl, rfl, rfl, rfl, by rw [has]; rfl, rfl, trivial⟩
        · obtain rfl : m = (partF l)[i].length := Nat.le_antisymm hm2 (Nat.not_lt.1 (fun hlt => by have h5 : (pageB ((partF l)[i].take m)).length < 512 := hpb.1 m hm1 hlt; omega))
          rw [List.take_length] at G14 ⊢
          have hlen := congrArg List.length (left_succ hi)
          rw [List.length_append] at hlen
          obtain ⟨a144, c144, hv144, hc144, R144⟩ := Sl.cutH (tBytes.ext0 hR hXj) (pageB (partF l)[i]).length (by omega)
          obtain ⟨a153, c153, hv153, hc153, R153⟩ := Sl.cutL (tBytes.ext0 hR hXj) (pageB (partF l)[i]).length (by omega)
          have R153 : tBytes.rep All wj (.slice a153 ((leftB l i).length - (pageB (partF l)[i]).length) c153) (leftB l (i + 1)) := by rw [left_succ hi, List.drop_left] at R153; rw [left_succ hi]; exact R153
          refine .skip rfl rfl ?_
          refine .skip rfl rfl ?_
          refine .skip rfl rfl ?_
          refine .skip rfl rfl ?_
          refine .p rfl rfl (.pickF rfl rfl) ?_
          refine .nil (.code (.keep [(114, _), (0, _), (3, _), (4, _), (6, _), (11, _), (12, _), (13, _), (14, _), (15, _)] ⟨rfl, rfl, rfl, rfl, rfl, rfl, rfl, rfl, rfl, rfl, trivial⟩ (.condF rfl (.exit rfl (.code (.seq (.seq (.keep [(0, _), (3, _), (4, _), (6, _), (11, _), (12, _), (13, _), (14, _), (15, _)] ⟨rfl, rfl, rfl, rfl, rfl, rfl, rfl, rfl, rfl, trivial⟩ (.draws (by kernel_rfl) (by kernel_rfl) ?_)))))))))
          refine .p rfl rfl (.mv rfl) ?_
          refine .p rfl rfl (.no (.ne rfl rfl) (fun hn => hn rfl)) ?_
          refine .p rfl rfl (.mv rfl) ?_
          refine .p rfl rfl (.mv rfl) ?_
          refine .p rfl rfl (.mv rfl) ?_
          refine .p rfl rfl (.len rfl rfl) ?_
          refine .p rfl rfl (.no (.ge rfl rfl) (by omega)) ?_
          refine .p rfl rfl (.pickF rfl rfl) ?_
          refine .p rfl rfl (.mv rfl) ?_
          refine .p rfl rfl (.mv rfl) ?_
          refine .p rfl rfl (.len rfl rfl) ?_
          refine .p rfl rfl (.mv rfl) ?_
          refine .p rfl rfl (.len rfl rfl) ?_
          refine .p rfl rfl (.no (.lt rfl rfl) (by omega)) ?_
          refine .p rfl rfl (.pickF rfl rfl) ?_
          refine .p rfl rfl (.mv rfl) ?_
          refine .p rfl rfl (.mv rfl) ?_
          refine .p rfl rfl (.mv rfl) ?_
          refine .p rfl rfl (.len rfl rfl) ?_
          refine .p rfl rfl (.cast (.cutHi (s := 1) rfl rfl rfl rfl (by omega)) (show cutV 1 a4 c4 0 (((pageB (partF l)[i]).length : Nat) : Int).toNat = _ from hv144)) ?_
          refine .p rfl rfl (.bytesStr rfl R144 rfl rfl rfl) ?_
          refine .p rfl rfl (.mv rfl) ?_
          refine .p rfl rfl (.bytesStr rfl (Gr.rep G14) rfl rfl rfl) ?_
          refine .p rfl rfl (.no (.neS rfl rfl) (fun hn => hn (by rw [left_succ hi, List.take_left]))) ?_
          refine .p rfl rfl (.pickF rfl rfl) ?_
          refine .nil (.code (.keep [(149, _), (0, _), (3, _), (4, _), (6, _), (12, _), (13, _), (14, _)] ⟨rfl, rfl, rfl, rfl, rfl, rfl, rfl, rfl, trivial⟩ (.condF rfl (.skip (.code (.seq (.keep [(0, _), (3, _), (4, _), (6, _), (12, _), (13, _), (14, _)] ⟨rfl, rfl, rfl, rfl, rfl, rfl, rfl, trivial⟩ (.region ?_))))))))
          refine .p rfl rfl (.mv rfl) ?_
          refine .p rfl rfl (.mv rfl) ?_
          refine .p rfl rfl (.len rfl rfl) ?_
          refine .p rfl rfl (.cast (.cutLo (s := 1) rfl rfl rfl rfl (by omega)) (show cutV 1 a4 c4 (((pageB (partF l)[i]).length : Nat) : Int).toNat (leftB l i).length = _ from hv153)) ?_
          refine .p rfl rfl (.as rfl) ?_
          refine .nil (.code (.keep [(4, _), (0, _), (3, _), (6, _), (12, _), (13, _)] ⟨rfl, rfl, rfl, rfl, rfl, rfl, trivial⟩ (.region ?_)))
          refine .p rfl rfl (.mv rfl) ?_
          refine .p rfl rfl (.as rfl) ?_
          refine .nil (.blk (.code (.keep [(11, _), (4, _), (0, _), (3, _), (6, _), (12, _)] ⟨rfl, rfl, rfl, rfl, rfl, rfl, trivial⟩ (.region ?_))))
          refine .p rfl rfl (.mv rfl) ?_
          refine .p rfl rfl (.add rfl rfl (by omega)) ?_
          refine .p rfl rfl (.as rfl) ?_
          refine .nil ?_
          exact (again (i + 1, _, wj) ⟨by show i + 1 ≤ _; omega, R153, hX.trans hXj⟩ (by show _ - (i + 1) < _ - i; omega)).of ⟨rfl, rfl, rfl, rfl, by rw [has]; rfl, rfl, trivial⟩
      · obtain rfl : i = (partF l).length := by omega
        refine .exit rfl (.code (.seq (.keep [(0, _), (3, _), (11, _)] ⟨rfl, rfl, rfl, trivial⟩ (.region ?_))))
        refine .p rfl rfl (.mv rfl) ?_
        refine .p rfl rfl (.mv rfl) ?_
        refine .p rfl rfl (.mv rfl) ?_
        refine .p rfl rfl (.mv rfl) ?_
        refine .p rfl rfl (.len rfl rfl) ?_
        refine .p rfl rfl (.yes (.eq rfl rfl) (by rw [atN_all])) ?_
        refine .p rfl rfl (.pickT rfl rfl) ?_
        refine .p rfl rfl (.as rfl) ?_
        refine .nil (.code ?_)
        refine .ret _ rfl ?_
        exact ⟨rfl, (by repeat (first | exact Ext.refl _ | assumption | refine Ext.trans (by assumption) ?_))⟩
end Go.Proofs.Ythkgadhamecnlaa
