
/-
  Package table: entries parted into pages.
-/
import Derived.Test.YthkgadhamecnlaaPages
set_option linter.unusedVariables false
set_option linter.unusedSimpArgs false
set_option maxRecDepth 20000
namespace Go.Proofs.Ythkgadhamecnlaa
open Go page table
namespace table
theorem take_drop_snoc {α : Type} {l : List α} {f i : Nat} (hf : f ≤ i) (hi : i < l.length) : (l.take (i + 1)).drop f = (l.take i).drop f ++ [l[i]] := by
  rw [List.take_succ_eq_append_getElem hi, List.drop_append_of_le_length (by rw [List.length_take]; omega)]
theorem PG.ext0 {w w2 : World} {p : Nat} {c : Nat → Nat} {lo : Nat} {ps : List (List Entry)} (h : PG w p c lo ps) (hX : Ext (fun _ => False) w w2) : PG w2 p c lo ps := by
  obtain ⟨v1, v2, v3, Bp, O1, O2, O3, hp0, hlo, hlo2⟩ := h
  exact ⟨v1, v2, v3, Bp.ext hX (fun x => x), OwnO.ext0 O1 hX, OwnO.ext0 O2 hX, OwnO.ext0 O3 hX, hp0, hlo, Nat.le_trans hlo2 hX.size⟩
theorem PG.lo {w : World} {p : Nat} {c : Nat → Nat} {lo : Nat} {ps : List (List Entry)} (h : PG w p c lo ps) : ∀ k, k < lo → c k = 5 := by
  obtain ⟨v1, v2, v3, Bp, O1, O2, O3, hp0, hlo, hlo2⟩ := h
  exact hlo
theorem PG.new {w w2 : World} (N : New w w2 69 [.slice none 0 0, .slice none 0 0, .slice none 0 0]) : PG w2 w.heap.size (fun k => if k < w.heap.size then 5 else 0) w.heap.size [] :=
  ⟨_, _, _, N.blk, .inl ⟨rfl, rfl⟩, .inl ⟨rfl, rfl⟩, .inl ⟨rfl, rfl⟩, if_neg (Nat.lt_irrefl _), fun k hk => if_pos hk, by have := N.size; omega⟩
end table
theorem part_fn {w : World} {v : Value} {l : List Entry} (h : (Sl tEntry).rep All w v l) (hck : checkE l = 0) : Fn Try.prog 32 [v] w (fun r w2 => r = .tuple #[.pointer (some ⟨w.heap.size, 0, none⟩), i64 0] ∧ (∃ c, PG w2 w.heap.size c w.heap.size (partF l)) ∧ Ext (fun _ => False) w w2) := by
  obtain ⟨a, cap, rfl, hcap⟩ := Sl.val h
  obtain ⟨hl4, hone⟩ := check_ok hck
  have h := (Sl tEntry).mono h (P' := fun k => k < w.heap.size) (fun k _ hk => hk)
  refine Fn.enter (fun w => Try.call32 _ w) Try.func32 rfl ?_
  refine .seq (.region ?_)
  refine .p rfl rfl (.as rfl) ?_
  refine .p rfl rfl (.as rfl) ?_
  refine .nil (.code (.seq (.keep [(0, _)] ⟨rfl, trivial⟩ (.region ?_))))
  refine .p rfl rfl (.build (vs := []) (cs := [.slice none 0 0, .slice none 0 0, .slice none 0 0]) rfl (fun _ => by kernel_rfl)) ?_
  refine .v rfl rfl (.box rfl) ?_
  rintro _ w11 ⟨rfl, N11⟩
  have G11 := PG.new N11
  refine .p rfl rfl (.as rfl) ?_
  refine .nil (.code (.seq (.keep [(4, _), (0, _)] ⟨rfl, rfl, trivial⟩ (.region ?_))))
  refine .p rfl rfl (.as rfl) ?_
  refine .nil (.code (.seq (.seq (.region ?_))))
  refine .p rfl rfl (.mv rfl) ?_
  refine .p rfl rfl (.len rfl rfl) ?_
  refine .p rfl rfl (.mv rfl) ?_
  refine .nil (.code (.block (.keep [(14, _), (13, _), (5, _), (4, _), (0, _)] ⟨rfl, rfl, rfl, rfl, rfl, trivial⟩ ?_)))
  refine .loop (S := Nat × Nat × List (List Entry) × (Nat → Nat) × World) (fun s => [(0, .slice a l.length cap), (4, .pointer (some ⟨w.heap.size, 0, none⟩)), (5, i64 s.2.1), (13, i64 l.length), (14, i64 s.1)]) (fun s => s.2.2.2.2) (fun s => s.1 ≤ l.length ∧ s.2.1 ≤ s.1 ∧ s.2.2.1 ++ partsK ((l.take s.1).drop s.2.1) (l.drop s.1) = partF l ∧ (pageB ((l.take s.1).drop s.2.1)).length < 512 ∧ s.2.2.1.length ≤ s.1 ∧ (s.1 = l.length → s.2.1 = l.length) ∧ PG s.2.2.2.2 w.heap.size s.2.2.2.1 w.heap.size s.2.2.1 ∧ Ext (fun _ => False) w s.2.2.2.2) (fun s => l.length - s.1) (0, 0, [], _, w11) ⟨rfl, rfl, rfl, rfl, rfl, trivial⟩ rfl ⟨Nat.zero_le _, Nat.le_refl _, rfl, by show (pageB []).length < 512; rw [page_nil]; decide, Nat.le_refl _, fun e => e, G11, N11.ext⟩ ?_
  rintro ⟨i, f, out, c, wi⟩ J ⟨hi', hf, hpt, hsm, hol, hend, hPG, hX⟩ again
  simp only at hi' hf hpt hsm hol hend hPG hX
  change G _ [(0, .slice a l.length cap), (4, .pointer (some ⟨w.heap.size, 0, none⟩)), (5, i64 f), (13, i64 l.length), (14, i64 i)] _ _ wi
  refine .seq (.region ?_)
  refine .p rfl rfl (.lt rfl rfl) ?_
  refine .nil (.code (.seq ?_))
  refine .condD rfl (fun c15 => ?_) (fun c15 => ?_)
  · have hi : i < l.length := by omega
    refine .skip (.code (.seq (.block (.seq (.keep [(0, _), (4, _), (5, _), (13, _), (14, _)] ⟨rfl, rfl, rfl, rfl, rfl, trivial⟩ (.region ?_))))))
    refine .p rfl rfl (.mv rfl) ?_
    refine .p rfl rfl (.as rfl) ?_
    refine .nil (.code (.seq (.keep [(6, _), (0, _), (4, _), (5, _), (13, _), (14, _)] ⟨rfl, rfl, rfl, rfl, rfl, rfl, trivial⟩ (.region ?_))))
    refine .p rfl rfl (.mv rfl) ?_
    refine .p rfl rfl (.mv rfl) ?_
    refine .p rfl rfl (.mv rfl) ?_
    refine .p rfl rfl (.add rfl rfl (by omega)) ?_
    obtain ⟨a22, c22, hv22, hc22, Ra⟩ := Sl.cutE ((Sl tEntry).ext0 h hX) f (i + 1) (by omega) (by omega)
    have hck1 := check_take hck f (i + 1)
    have hsn := take_drop_snoc hf hi
    have hgr := page_grow (acc := (l.take i).drop f) (x := l[i]) (hone _ (List.getElem_mem hi))
    rw [← hsn] at hgr
    refine .p rfl rfl (.cast (.cut (s := 4) rfl rfl rfl rfl rfl (by omega)) (show cutV 4 a cap ((f : Nat) : Int).toNat ((i : Int) + 1).toNat = _ from hv22)) ?_
    refine .call (first := []) (captured := []) rfl rfl rfl rfl (Make_fn ((Sl tEntry).mono Ra (fun _ _ _ => trivial))) ?_
    rintro _ w23 ⟨v23, rfl, G23, X23⟩
    have em := make_small hck1 (by omega)
    have G23 : Gr w23 v23 (pageB ((l.take (i + 1)).drop f)) wi.heap.size := by rw [em] at G23; exact G23
    rw [show (makeE ((l.take (i + 1)).drop f)).2 = 0 by rw [em]]
    have hnil : (l.take (i + 1)).drop (i + 1) = [] := List.drop_of_length_le (by rw [List.length_take]; omega)
    obtain ⟨a23, c23, rfl, hc23⟩ := OwnO.val G23
    refine .p rfl rfl (.mv rfl) ?_
    refine .p rfl rfl (.extract rfl rfl) ?_
    refine .p rfl rfl (.extract rfl rfl) ?_
    refine .p rfl rfl (.as rfl) ?_
    refine .p rfl rfl (.as rfl) ?_
    refine .nil (.code (.seq (.keep [(8, _), (7, _), (6, _), (0, _), (4, _), (5, _), (13, _), (14, _)] ⟨rfl, rfl, rfl, rfl, rfl, rfl, rfl, rfl, trivial⟩ (.region ?_))))
    refine .p rfl rfl (.mv rfl) ?_
    refine .p rfl rfl (.add rfl rfl (by omega)) ?_
    refine .p rfl rfl (.mv rfl) ?_
    refine .p rfl rfl (.len rfl rfl) ?_
    refine .p rfl rfl (.eq rfl rfl) ?_
    refine .p rfl rfl (.mv rfl) ?_
    refine .caseD 31 rfl (fun c31 => ?_) (fun c31 => ?_)
    · have hcut : l.drop (i + 1) = [] ∨ 512 ≤ (pageB ((l.take i).drop f ++ [l[i]])).length := .inl (List.drop_of_length_le (by omega))
      refine .skip rfl rfl ?_
      refine .skip rfl rfl ?_
      refine .p rfl rfl (.pickT rfl rfl) ?_
      refine .p rfl rfl (.mv rfl) ?_
      refine .skip rfl rfl ?_
      refine .skip rfl rfl ?_
      refine .skip rfl rfl ?_
      refine .p rfl rfl (.pickT rfl rfl) ?_
      refine .nil (.code (.keep [(39, _), (6, _), (0, _), (4, _), (5, _), (13, _), (14, _)] ⟨rfl, rfl, rfl, rfl, rfl, rfl, rfl, trivial⟩ (.condT rfl (.seq (.seq (.keep [(6, _), (0, _), (4, _), (5, _), (13, _), (14, _)] ⟨rfl, rfl, rfl, rfl, rfl, rfl, trivial⟩ (.region ?_)))))))
      refine .p rfl rfl (.mv rfl) ?_
      refine .p rfl rfl (.mv rfl) ?_
      refine .p rfl rfl (.mv rfl) ?_
      refine .p rfl rfl (.mv rfl) ?_
      refine .p rfl rfl (.add rfl rfl (by omega)) ?_
      refine .p rfl rfl (.cast (.cut (s := 4) rfl rfl rfl rfl rfl (by omega)) (show cutV 4 a cap ((f : Nat) : Int).toNat ((i : Int) + 1).toNat = _ from hv22)) ?_
      refine .call (first := []) (captured := []) rfl rfl rfl rfl (add_fn (hPG.ext0 X23) ((Sl tEntry).mono ((Sl tEntry).ext0 Ra X23) (fun k hk _ => hPG.lo k hk)) (by rw [hsn, List.length_append]; exact Nat.succ_pos _) hck1 (by omega) (by omega)) ?_
      rintro _ w46 ⟨rfl, ⟨c46, G46, hcc⟩, X46⟩
      have Y46 : Ext (fun _ => False) w w46 := (hX.trans X23).then X46 (fun k hk _ => Nat.not_lt.1 (fun hlt => by have := hPG.lo k hlt; omega))
      refine .p rfl rfl (.as rfl) ?_
      refine .nil (.code (.seq (.keep [(9, _), (6, _), (0, _), (4, _), (13, _), (14, _)] ⟨rfl, rfl, rfl, rfl, rfl, rfl, trivial⟩ (.region ?_))))
      refine .p rfl rfl (.mv rfl) ?_
      refine .p rfl rfl (.no (.ne rfl rfl) (by decide)) ?_
      refine .nil (.code (.keep [(48, _), (9, _), (6, _), (0, _), (4, _), (13, _), (14, _)] ⟨rfl, rfl, rfl, rfl, rfl, rfl, rfl, trivial⟩ (.condF rfl (.skip (.code (.keep [(6, _), (0, _), (4, _), (13, _), (14, _)] ⟨rfl, rfl, rfl, rfl, rfl, trivial⟩ (.region ?_)))))))
      refine .p rfl rfl (.mv rfl) ?_
      refine .p rfl rfl (.add rfl rfl (by omega)) ?_
      refine .p rfl rfl (.as rfl) ?_
      refine .nil (.blk (.code (.keep [(5, _), (0, _), (4, _), (13, _), (14, _)] ⟨rfl, rfl, rfl, rfl, rfl, trivial⟩ (.region ?_))))
      refine .p rfl rfl (.add rfl rfl (by omega)) ?_
      refine .p rfl rfl (.mv rfl) ?_
      refine .nil ?_
      rw [List.drop_eq_getElem_cons hi, partsK_cut hcut, ← hsn] at hpt
      exact (again (i + 1, i + 1, out ++ [(l.take (i + 1)).drop f], c46, w46) ⟨by show i + 1 ≤ _; omega, Nat.le_refl _, by show out ++ [(l.take (i + 1)).drop f] ++ partsK ((l.take (i + 1)).drop (i + 1)) _ = _; rw [hnil, List.append_assoc]; exact hpt, by show (pageB ((l.take (i + 1)).drop (i + 1))).length < 512; rw [hnil, page_nil]; decide, by show (out ++ [_]).length ≤ _; rw [List.length_append]; exact Nat.succ_le_succ hol, fun e => e, G46, Y46⟩ (by show _ - (i + 1) < _ - i; omega)).of ⟨rfl, rfl, rfl, rfl, rfl, trivial⟩
    · refine .p rfl rfl (.mv rfl) ?_
      refine .p rfl rfl (.no (.ne rfl rfl) (by decide)) ?_
      refine .p rfl rfl (.pickF rfl rfl) ?_
      refine .p rfl rfl (.mv rfl) ?_
      refine .p rfl rfl (.mv rfl) ?_
      refine .p rfl rfl (.len rfl rfl) ?_
      refine .p rfl rfl (.ge rfl rfl) ?_
      refine .p rfl rfl (.pickF rfl rfl) ?_
      refine .nil (.code (.keep [(39, _), (6, _), (0, _), (4, _), (5, _), (13, _), (14, _)] ⟨rfl, rfl, rfl, rfl, rfl, rfl, rfl, trivial⟩ ?_))
      refine .condD rfl (fun c39 => ?_) (fun c39 => ?_)
      · have hcut : l.drop (i + 1) = [] ∨ 512 ≤ (pageB ((l.take i).drop f ++ [l[i]])).length := .inr (by rw [← hsn]; omega)
        refine .seq (.seq (.keep [(6, _), (0, _), (4, _), (5, _), (13, _), (14, _)] ⟨rfl, rfl, rfl, rfl, rfl, rfl, trivial⟩ (.region ?_)))
        refine .p rfl rfl (.mv rfl) ?_
        refine .p rfl rfl (.mv rfl) ?_
        refine .p rfl rfl (.mv rfl) ?_
        refine .p rfl rfl (.mv rfl) ?_
        refine .p rfl rfl (.add rfl rfl (by omega)) ?_
        refine .p rfl rfl (.cast (.cut (s := 4) rfl rfl rfl rfl rfl (by omega)) (show cutV 4 a cap ((f : Nat) : Int).toNat ((i : Int) + 1).toNat = _ from hv22)) ?_
        refine .call (first := []) (captured := []) rfl rfl rfl rfl (add_fn (hPG.ext0 X23) ((Sl tEntry).mono ((Sl tEntry).ext0 Ra X23) (fun k hk _ => hPG.lo k hk)) (by rw [hsn, List.length_append]; exact Nat.succ_pos _) hck1 (by omega) (by omega)) ?_
        rintro _ w46 ⟨rfl, ⟨c46, G46, hcc⟩, X46⟩
        have Y46 : Ext (fun _ => False) w w46 := (hX.trans X23).then X46 (fun k hk _ => Nat.not_lt.1 (fun hlt => by have := hPG.lo k hlt; omega))
        refine .p rfl rfl (.as rfl) ?_
        refine .nil (.code (.seq (.keep [(9, _), (6, _), (0, _), (4, _), (13, _), (14, _)] ⟨rfl, rfl, rfl, rfl, rfl, rfl, trivial⟩ (.region ?_))))
        refine .p rfl rfl (.mv rfl) ?_
        refine .p rfl rfl (.no (.ne rfl rfl) (by decide)) ?_
        refine .nil (.code (.keep [(48, _), (9, _), (6, _), (0, _), (4, _), (13, _), (14, _)] ⟨rfl, rfl, rfl, rfl, rfl, rfl, rfl, trivial⟩ (.condF rfl (.skip (.code (.keep [(6, _), (0, _), (4, _), (13, _), (14, _)] ⟨rfl, rfl, rfl, rfl, rfl, trivial⟩ (.region ?_)))))))
        refine .p rfl rfl (.mv rfl) ?_
        refine .p rfl rfl (.add rfl rfl (by omega)) ?_
        refine .p rfl rfl (.as rfl) ?_
        refine .nil (.blk (.code (.keep [(5, _), (0, _), (4, _), (13, _), (14, _)] ⟨rfl, rfl, rfl, rfl, rfl, trivial⟩ (.region ?_))))
        refine .p rfl rfl (.add rfl rfl (by omega)) ?_
        refine .p rfl rfl (.mv rfl) ?_
        refine .nil ?_
        rw [List.drop_eq_getElem_cons hi, partsK_cut hcut, ← hsn] at hpt
        exact (again (i + 1, i + 1, out ++ [(l.take (i + 1)).drop f], c46, w46) ⟨by show i + 1 ≤ _; omega, Nat.le_refl _, by show out ++ [(l.take (i + 1)).drop f] ++ partsK ((l.take (i + 1)).drop (i + 1)) _ = _; rw [hnil, List.append_assoc]; exact hpt, by show (pageB ((l.take (i + 1)).drop (i + 1))).length < 512; rw [hnil, page_nil]; decide, by show (out ++ [_]).length ≤ _; rw [List.length_append]; exact Nat.succ_le_succ hol, fun e => e, G46, Y46⟩ (by show _ - (i + 1) < _ - i; omega)).of ⟨rfl, rfl, rfl, rfl, rfl, trivial⟩
      · refine .skip (.blk (.code (.keep [(0, _), (4, _), (5, _), (13, _), (14, _)] ⟨rfl, rfl, rfl, rfl, rfl, trivial⟩ (.region ?_))))
        refine .p rfl rfl (.add rfl rfl (by omega)) ?_
        refine .p rfl rfl (.mv rfl) ?_
        refine .nil ?_
        have hng : ¬ (l.drop (i + 1) = [] ∨ 512 ≤ (pageB ((l.take i).drop f ++ [l[i]])).length) := by
          rintro (he | he)
          · have := congrArg List.length he; rw [List.length_drop, List.length_nil] at this; omega
          · rw [← hsn] at he; omega
        rw [List.drop_eq_getElem_cons hi, partsK_on hng, ← hsn] at hpt
        exact (again (i + 1, f, out, c, w23) ⟨by show i + 1 ≤ _; omega, by show f ≤ i + 1; omega, hpt, by show (pageB ((l.take (i + 1)).drop f)).length < 512; omega, by show out.length ≤ i + 1; omega, fun e => by have e : i + 1 = l.length := e; omega, hPG.ext0 X23, hX.trans X23⟩ (by show _ - (i + 1) < _ - i; omega)).of ⟨rfl, rfl, rfl, rfl, rfl, trivial⟩
  · obtain rfl : i = l.length := by omega
    obtain rfl := hend rfl
    rw [List.drop_length, List.take_length, List.drop_length] at hpt
    have hpt : out ++ [] = partF l := hpt
    rw [List.append_nil] at hpt
    subst hpt
    refine .exit rfl (.code (.seq (.keep [(4, _)] ⟨rfl, trivial⟩ (.region ?_))))
    refine .p rfl rfl (.mv rfl) ?_
    refine .p rfl rfl (.as rfl) ?_
    refine .p rfl rfl (.as rfl) ?_
    refine .nil (.code ?_)
    refine .ret _ rfl ?_
    exact ⟨rfl, ⟨c, hPG⟩, hX⟩
end Go.Proofs.Ythkgadhamecnlaa
