
/-
  The document's own tables: parted, made.
-/
import Derived.Test.YthkgadhamecnlaaTabMake
import Derived.Test.YthkgadhamecnlaaRef08
import Derived.Test.YthkgadhamecnlaaRef07
import Derived.Test.YthkgadhamecnlaaRef01c
import Derived.Test.YthkgadhamecnlaaRef01p
set_option linter.unusedVariables false
set_option linter.unusedSimpArgs false
set_option maxRecDepth 20000
namespace Go.Proofs.Ythkgadhamecnlaa
open Go page table
namespace table
theorem part_check {l : List Entry} (hck : checkE l = 0) {i : Nat} (h : i < (partF l).length) : checkE (partF l)[i] = 0 := by
  have e : l = ((partF l).take i).flatten ++ (partF l)[i] ++ ((partF l).drop (i + 1)).flatten := by
    conv => lhs; rw [← part_flat l, ← List.take_append_drop i (partF l), List.drop_eq_getElem_cons h]
    rw [List.flatten_append, List.flatten_cons, List.append_assoc]
  rw [e] at hck
  exact check_mid hck
def pagesTo (ps : List (List Entry)) (i : Nat) : Bs := ((ps.take i).map pageB).flatten
theorem pagesTo_succ {ps : List (List Entry)} {i : Nat} (h : i < ps.length) : pagesTo ps (i + 1) = pagesTo ps i ++ pageB ps[i] := by
  unfold pagesTo
  rw [List.take_succ_eq_append_getElem h, List.map_append, List.flatten_append]; simp
theorem pagesTo_all (ps : List (List Entry)) : pagesTo ps ps.length = pagesB ps := by unfold pagesTo pagesB; rw [List.take_length]
theorem pagesTo_le (ps : List (List Entry)) (i : Nat) : (pagesTo ps i).length ≤ (pagesB ps).length := by
  have h : pagesB ps = pagesTo ps i ++ ((ps.drop i).map pageB).flatten := by unfold pagesB pagesTo; rw [← List.flatten_append, ← List.map_append, List.take_append_drop]
  rw [h, List.length_append]; omega
theorem tableB_le (l : List Entry) : (pagesB (partF l)).length ≤ (tableB l).length := by unfold tableB preT; simp only [List.length_append]; omega
end table
theorem RefParted_fn {w : World} {P : Nat → Prop} {v : Value} {l : List Entry} (h : (Sl tEntry).rep P w v l) (hck : checkE l = 0) : Fn Try.prog 39 [v] w (fun r w2 => OwnO (Sl tEntry) (fun k => P k ∧ k < w.heap.size) 22 w2 r (partF l) (fun k => w.heap.size ≤ k) ∧ Ext (fun _ => False) w w2) := by
  obtain ⟨a, cap, rfl, hcap⟩ := Sl.val h
  obtain ⟨hl4, hone⟩ := check_ok hck
  have h := (Sl tEntry).mono h (P' := (fun k => P k ∧ k < w.heap.size)) (fun k hp hk => ⟨hp, hk⟩)
  refine Fn.enter (fun w => Try.call39 _ w) Try.func39 rfl ?_
  refine .seq (.region ?_)
  refine .p rfl rfl (.as rfl) ?_
  refine .nil (.code (.seq (.keep [(0, _)] ⟨rfl, trivial⟩ (.region ?_))))
  refine .p rfl rfl (.as rfl) ?_
  refine .nil (.code (.seq (.region ?_)))
  refine .p rfl rfl (.as rfl) ?_
  refine .nil (.code (.seq (.seq (.region ?_))))
  refine .p rfl rfl (.as rfl) ?_
  refine .nil (.code (.block ?_))
  refine .loop (S := Nat × Nat × List (List Entry) × Value × World) (fun s => [(0, .slice a l.length cap), (3, s.2.2.2.1), (4, i64 s.2.1), (5, i64 s.1)]) (fun s => s.2.2.2.2) (fun s => s.1 ≤ l.length ∧ s.2.1 ≤ s.1 ∧ s.2.2.1 ++ partsK ((l.take s.1).drop s.2.1) (l.drop s.1) = partF l ∧ s.2.2.1.length ≤ s.1 ∧ (s.1 = l.length → s.2.1 = l.length) ∧ OwnO (Sl tEntry) (fun k => P k ∧ k < w.heap.size) 22 s.2.2.2.2 s.2.2.2.1 s.2.2.1 (fun k => w.heap.size ≤ k) ∧ Ext (fun _ => False) w s.2.2.2.2) (fun s => l.length - s.1) (0, 0, [], _, w) ⟨rfl, rfl, rfl, rfl, trivial⟩ rfl ⟨Nat.zero_le _, Nat.le_refl _, rfl, Nat.le_refl _, fun e => e, OwnO.nil, .refl _⟩ ?_
  rintro ⟨i, f, out, v3, wi⟩ J ⟨hi', hf, hpt, hol, hend, hO, hX⟩ again
  simp only at hi' hf hpt hol hend hO hX
  have zwi := hX.size
  change G _ [(0, .slice a l.length cap), (3, v3), (4, i64 f), (5, i64 i)] _ _ wi
  refine .seq (.seq (.region ?_))
  refine .p rfl rfl (.mv rfl) ?_
  refine .p rfl rfl (.mv rfl) ?_
  refine .p rfl rfl (.len rfl rfl) ?_
  refine .p rfl rfl (.lt rfl rfl) ?_
  refine .nil (.code (.keep [(9, _), (0, _), (3, _), (4, _), (5, _)] ⟨rfl, rfl, rfl, rfl, rfl, trivial⟩ ?_))
  refine .condD rfl (fun c9 => ?_) (fun c9 => ?_)
  · have hi : i < l.length := by omega
    refine .skip (.code (.seq (.block (.seq (.keep [(0, _), (3, _), (4, _), (5, _)] ⟨rfl, rfl, rfl, rfl, trivial⟩ (.region ?_))))))
    refine .p rfl rfl (.mv rfl) ?_
    refine .p rfl rfl (.add rfl rfl (by omega)) ?_
    refine .p rfl rfl (.mv rfl) ?_
    refine .p rfl rfl (.len rfl rfl) ?_
    refine .p rfl rfl (.eq rfl rfl) ?_
    obtain ⟨a22, c22, hv22, hc22, Ra⟩ := Sl.cutE ((Sl tEntry).ext0 h hX) f (i + 1) (by omega) (by omega)
    have hsn := take_drop_snoc hf hi
    have hnil : (l.take (i + 1)).drop (i + 1) = [] := List.drop_of_length_le (by rw [List.length_take]; omega)
    refine .p rfl rfl (.mv rfl) ?_
    refine .caseD 17 rfl (fun c17 => ?_) (fun c17 => ?_)
    · have hcut : l.drop (i + 1) = [] ∨ 512 ≤ (pageB ((l.take i).drop f ++ [l[i]])).length := .inl (List.drop_of_length_le (by omega))
      have X23 : Ext (fun _ => False) wi wi := .refl _
      have z23 := X23.size
      refine .skip rfl rfl ?_
      refine .skip rfl rfl ?_
      refine .skip rfl rfl ?_
      refine .skip rfl rfl ?_
      refine .skip rfl rfl ?_
      refine .skip rfl rfl ?_
      refine .skip rfl rfl ?_
      refine .skip rfl rfl ?_
      refine .p rfl rfl (.pickT rfl rfl) ?_
      refine .nil (.code (.keep [(26, _), (0, _), (3, _), (4, _), (5, _)] ⟨rfl, rfl, rfl, rfl, rfl, trivial⟩ (.condT rfl (.seq (.keep [(0, _), (3, _), (4, _), (5, _)] ⟨rfl, rfl, rfl, rfl, trivial⟩ (.region ?_))))))
      refine .p rfl rfl (.mv rfl) ?_
      refine .p rfl rfl (.mv rfl) ?_
      refine .p rfl rfl (.mv rfl) ?_
      refine .p rfl rfl (.mv rfl) ?_
      refine .p rfl rfl (.add rfl rfl (by omega)) ?_
      refine .p rfl rfl (.cast (.cut (s := 4) rfl rfl rfl rfl rfl (by omega)) (show cutV 4 a cap ((f : Nat) : Int).toNat ((i : Int) + 1).toNat = _ from hv22)) ?_
      refine .v rfl rfl (.lits rfl rfl (fun _ => by kernel_rfl)) ?_
      rintro _ w33 ⟨rfl, N33⟩
      have z33 := N33.size
      refine .v rfl rfl (.appendLo (t := Sl tEntry) (Q := (fun k => P k ∧ k < w.heap.size)) (xs := out) (ys := [(l.take (i + 1)).drop f]) (B := fun k => w.heap.size ≤ k) (eb := 24) rfl (OwnO.ext0 (OwnO.ext0 hO X23) N33.ext) (fun k hk => by have hk : w33.heap.size ≤ k := hk; show w.heap.size ≤ k; omega) rfl (.inr (New.holds (t := Sl tEntry) (us := [_]) (xs := [(l.take (i + 1)).drop f]) N33 (.cons ((Sl tEntry).ext0 Ra X23) .nil) rfl)) rfl rfl rfl rfl rfl rfl rfl (by simp; omega) (by simp [Lim]; omega) (fun k h _ hB => by have := h.2; omega)) ?_
      rintro r34 w34 ⟨O34, Y34⟩
      refine .p rfl rfl (.as rfl) ?_
      refine .nil (.code (.keep [(3, _), (0, _), (5, _)] ⟨rfl, rfl, rfl, trivial⟩ (.region ?_)))
      refine .p rfl rfl (.mv rfl) ?_
      refine .p rfl rfl (.add rfl rfl (by omega)) ?_
      refine .p rfl rfl (.as rfl) ?_
      refine .nil (.blk (.code (.keep [(4, _), (3, _), (0, _), (5, _)] ⟨rfl, rfl, rfl, rfl, trivial⟩ (.region ?_))))
      refine .p rfl rfl (.mv rfl) ?_
      refine .p rfl rfl (.add rfl rfl (by omega)) ?_
      refine .p rfl rfl (.as rfl) ?_
      refine .nil ?_
      rw [List.drop_eq_getElem_cons hi, partsK_cut hcut, ← hsn] at hpt
      exact (again (i + 1, i + 1, out ++ [(l.take (i + 1)).drop f], r34, w34) ⟨by show i + 1 ≤ _; omega, Nat.le_refl _, by show out ++ [(l.take (i + 1)).drop f] ++ partsK ((l.take (i + 1)).drop (i + 1)) _ = _; rw [hnil, List.append_assoc]; exact hpt, by show (out ++ [_]).length ≤ _; rw [List.length_append]; exact Nat.succ_le_succ hol, fun e => e, O34, ((hX.trans X23).trans N33.ext).then Y34 (fun k h _ => h)⟩ (by show _ - (i + 1) < _ - i; omega)).of ⟨rfl, rfl, rfl, rfl, trivial⟩
    · refine .p rfl rfl (.mv rfl) ?_
      refine .p rfl rfl (.mv rfl) ?_
      refine .p rfl rfl (.mv rfl) ?_
      refine .p rfl rfl (.add rfl rfl (by omega)) ?_
      refine .p rfl rfl (.cast (.cut (s := 4) rfl rfl rfl rfl rfl (by omega)) (show cutV 4 a cap ((f : Nat) : Int).toNat ((i : Int) + 1).toNat = _ from hv22)) ?_
      refine .call (first := []) (captured := []) rfl rfl rfl rfl (Made_fn ((Sl tEntry).mono Ra (fun _ _ _ => trivial)) (check_take hck f (i + 1))) ?_
      rintro r23 w23 ⟨G23, X23⟩
      obtain ⟨a23, c23, rfl, hc23⟩ := OwnO.val G23
      refine .p rfl rfl (.len rfl rfl) ?_
      refine .p rfl rfl (.ge rfl rfl) ?_
      refine .p rfl rfl (.pickF rfl rfl) ?_
      refine .nil (.code (.keep [(26, _), (0, _), (3, _), (4, _), (5, _)] ⟨rfl, rfl, rfl, rfl, rfl, trivial⟩ ?_))
      refine .condD rfl (fun c26 => ?_) (fun c26 => ?_)
      · have hcut : l.drop (i + 1) = [] ∨ 512 ≤ (pageB ((l.take i).drop f ++ [l[i]])).length := .inr (by rw [← hsn]; omega)
        have z23 := X23.size
        refine .seq (.keep [(0, _), (3, _), (4, _), (5, _)] ⟨rfl, rfl, rfl, rfl, trivial⟩ (.region ?_))
        refine .p rfl rfl (.mv rfl) ?_
        refine .p rfl rfl (.mv rfl) ?_
        refine .p rfl rfl (.mv rfl) ?_
        refine .p rfl rfl (.mv rfl) ?_
        refine .p rfl rfl (.add rfl rfl (by omega)) ?_
        refine .p rfl rfl (.cast (.cut (s := 4) rfl rfl rfl rfl rfl (by omega)) (show cutV 4 a cap ((f : Nat) : Int).toNat ((i : Int) + 1).toNat = _ from hv22)) ?_
        refine .v rfl rfl (.lits rfl rfl (fun _ => by kernel_rfl)) ?_
        rintro _ w33 ⟨rfl, N33⟩
        have z33 := N33.size
        refine .v rfl rfl (.appendLo (t := Sl tEntry) (Q := (fun k => P k ∧ k < w.heap.size)) (xs := out) (ys := [(l.take (i + 1)).drop f]) (B := fun k => w.heap.size ≤ k) (eb := 24) rfl (OwnO.ext0 (OwnO.ext0 hO X23) N33.ext) (fun k hk => by have hk : w33.heap.size ≤ k := hk; show w.heap.size ≤ k; omega) rfl (.inr (New.holds (t := Sl tEntry) (us := [_]) (xs := [(l.take (i + 1)).drop f]) N33 (.cons ((Sl tEntry).ext0 Ra X23) .nil) rfl)) rfl rfl rfl rfl rfl rfl rfl (by simp; omega) (by simp [Lim]; omega) (fun k h _ hB => by have := h.2; omega)) ?_
        rintro r34 w34 ⟨O34, Y34⟩
        refine .p rfl rfl (.as rfl) ?_
        refine .nil (.code (.keep [(3, _), (0, _), (5, _)] ⟨rfl, rfl, rfl, trivial⟩ (.region ?_)))
        refine .p rfl rfl (.mv rfl) ?_
        refine .p rfl rfl (.add rfl rfl (by omega)) ?_
        refine .p rfl rfl (.as rfl) ?_
        refine .nil (.blk (.code (.keep [(4, _), (3, _), (0, _), (5, _)] ⟨rfl, rfl, rfl, rfl, trivial⟩ (.region ?_))))
        refine .p rfl rfl (.mv rfl) ?_
        refine .p rfl rfl (.add rfl rfl (by omega)) ?_
        refine .p rfl rfl (.as rfl) ?_
        refine .nil ?_
        rw [List.drop_eq_getElem_cons hi, partsK_cut hcut, ← hsn] at hpt
        exact (again (i + 1, i + 1, out ++ [(l.take (i + 1)).drop f], r34, w34) ⟨by show i + 1 ≤ _; omega, Nat.le_refl _, by show out ++ [(l.take (i + 1)).drop f] ++ partsK ((l.take (i + 1)).drop (i + 1)) _ = _; rw [hnil, List.append_assoc]; exact hpt, by show (out ++ [_]).length ≤ _; rw [List.length_append]; exact Nat.succ_le_succ hol, fun e => e, O34, ((hX.trans X23).trans N33.ext).then Y34 (fun k h _ => h)⟩ (by show _ - (i + 1) < _ - i; omega)).of ⟨rfl, rfl, rfl, rfl, trivial⟩
      · refine .skip (.blk (.code (.keep [(0, _), (3, _), (4, _), (5, _)] ⟨rfl, rfl, rfl, rfl, trivial⟩ (.region ?_))))
        refine .p rfl rfl (.mv rfl) ?_
        refine .p rfl rfl (.add rfl rfl (by omega)) ?_
        refine .p rfl rfl (.as rfl) ?_
        refine .nil ?_
        have hng : ¬ (l.drop (i + 1) = [] ∨ 512 ≤ (pageB ((l.take i).drop f ++ [l[i]])).length) := by
          rintro (he | he)
          · have := congrArg List.length he; rw [List.length_drop, List.length_nil] at this; omega
          · rw [← hsn] at he; omega
        rw [List.drop_eq_getElem_cons hi, partsK_on hng, ← hsn] at hpt
        exact (again (i + 1, f, out, v3, w23) ⟨by show i + 1 ≤ _; omega, by show f ≤ i + 1; omega, hpt, by show out.length ≤ i + 1; omega, fun e => by have e : i + 1 = l.length := e; omega, OwnO.ext0 hO X23, hX.trans X23⟩ (by show _ - (i + 1) < _ - i; omega)).of ⟨rfl, rfl, rfl, rfl, trivial⟩
  · obtain rfl : i = l.length := by omega
    obtain rfl := hend rfl
    rw [List.drop_length, List.take_length, List.drop_length] at hpt
    have hpt : out ++ [] = partF l := hpt
    rw [List.append_nil] at hpt
    subst hpt
    refine .exit rfl (.code (.seq (.keep [(3, _)] ⟨rfl, trivial⟩ (.region ?_))))
    refine .p rfl rfl (.mv rfl) ?_
    refine .p rfl rfl (.as rfl) ?_
    refine .nil (.code ?_)
    refine .ret _ rfl ?_
    exact ⟨hO, hX⟩
set_option maxHeartbeats 2000000 in
theorem RefTMake_fn {w : World} {v : Value} {l : List Entry} (h : (Sl tEntry).rep All w v l) : Fn Try.prog 13 [v] w (fun r w2 => ∃ v', r = .tuple #[v', i64 (makeT l).2] ∧ Gr w2 v' (makeT l).1 w.heap.size ∧ Ext (fun _ => False) w w2) := by
  obtain ⟨a, cap, rfl, hcap⟩ := Sl.val h
  have h := (Sl tEntry).mono h (P' := fun k => k < w.heap.size) (fun k _ hk => hk)
  refine Fn.enter (fun w => Try.call13 _ w) Try.func13 rfl ?_
  refine .seq (.region ?_)
  refine .p rfl rfl (.as rfl) ?_
  refine .p rfl rfl (.as rfl) ?_
  refine .nil (.code (.seq (.keep [(0, _)] ⟨rfl, trivial⟩ (.region ?_))))
  refine .p rfl rfl (.mv rfl) ?_
  refine .call (first := []) (captured := []) rfl rfl rfl rfl (RefCheck_fn ((Sl tEntry).mono h (fun _ _ _ => trivial))) ?_
  rintro _ w17 ⟨rfl, X17⟩
  have z17 := X17.size
  refine .p rfl rfl (.as rfl) ?_
  refine .nil (.code (.seq (.seq (.keep [(4, _), (0, _)] ⟨rfl, rfl, trivial⟩ (.region ?_)))))
  refine .p rfl rfl (.mv rfl) ?_
  refine .p rfl rfl (.ne rfl rfl) ?_
  refine .nil (.code (.keep [(19, _), (4, _), (0, _)] ⟨rfl, rfl, rfl, trivial⟩ ?_))
  refine .condD rfl (fun c19 => ?_) (fun c19 => ?_)
  · refine .seq (.keep [(4, _)] ⟨rfl, trivial⟩ (.region ?_))
    refine .p rfl rfl (.mv rfl) ?_
    refine .p rfl rfl (.as rfl) ?_
    refine .p rfl rfl (.as rfl) ?_
    refine .nil (.code ?_)
    refine .ret _ rfl ?_
    exact ⟨_, by unfold makeT; rw [if_pos c19]; rfl, by unfold makeT; rw [if_pos c19]; exact OwnO.nil, X17⟩
  · have hck : checkE l = 0 := Decidable.not_not.1 c19
    obtain ⟨hl4, hone⟩ := check_ok hck
    refine .skip (.code (.seq (.seq (.keep [(0, _)] ⟨rfl, trivial⟩ (.region ?_)))))
    refine .p rfl rfl (.mv rfl) ?_
    refine .p rfl rfl (.len rfl rfl) ?_
    refine .p rfl rfl (.eq rfl rfl) ?_
    refine .nil (.code (.keep [(23, _), (0, _)] ⟨rfl, rfl, trivial⟩ ?_))
    refine .condD rfl (fun c23 => ?_) (fun c23 => ?_)
    · obtain rfl : l = [] := List.length_eq_zero_iff.1 (by omega)
      refine .seq (.keep [] trivial (.region ?_))
      refine .p rfl rfl (.as rfl) ?_
      refine .p rfl rfl (.as rfl) ?_
      refine .nil (.code ?_)
      refine .ret _ rfl ?_
      have e : makeT [] = ([], 90) := by unfold makeT; rw [if_neg (fun hn => hn hck), if_pos rfl]
      rw [e]
      exact ⟨_, rfl, OwnO.nil, X17⟩
    · have hne : ¬ l = [] := fun e => c23 (by rw [e]; rfl)
      refine .skip (.code (.seq (.keep [(0, _)] ⟨rfl, trivial⟩ (.region ?_))))
      refine .v rfl rfl (.lits rfl rfl (fun _ => by kernel_rfl)) ?_
      rintro _ w24 ⟨rfl, N24⟩
      have z24 := N24.size
      refine .v rfl rfl (.lits rfl rfl (fun _ => by kernel_rfl)) ?_
      rintro _ w25 ⟨rfl, N25⟩
      have z25 := N25.size
      have X025 := (X17.trans N24.ext).trans N25.ext
      refine .p rfl rfl (.as rfl) ?_
      refine .p rfl rfl (.as rfl) ?_
      refine .nil (.code (.seq (.keep [(6, _), (5, _), (0, _)] ⟨rfl, rfl, rfl, trivial⟩ (.region ?_))))
      refine .p rfl rfl (.mv rfl) ?_
      refine .call (first := []) (captured := []) rfl rfl rfl rfl (RefParted_fn ((Sl tEntry).ext0 h X025) hck) ?_
      rintro r27 w27 ⟨O27, X27⟩
      have z27 := X27.size
      have R27 : (Sl (Sl tEntry)).rep (fun k => k < w27.heap.size ∧ k ≠ w17.heap.size) w27 r27 (partF l) := OwnO.rep O27 (fun k h hk => ⟨hk, by have h : w25.heap.size ≤ k := h; omega⟩) (fun k h hk => ⟨hk, by have := h.1; omega⟩)
      obtain ⟨a27, c27, rfl, hc27⟩ := Sl.val R27
      have hmany := parts_many l []
      have hpm : (partF l).length ≤ 4097 := by unfold partF; omega
      have hpl := pages_le hck
      have hil := index_le hck
      have P27 : OwnO tByte (fun _ => False) 5 w27 (.slice (some ⟨w17.heap.size, 0, none⟩) 0 0) (pagesTo (partF l) 0) (fun k => k = w17.heap.size) := OwnO.ext0 (OwnO.ext0 (OwnO.ofOwn (Own.ofNew (us := []) N24 .nil (by decide) rfl rfl) (fun _ => rfl)) N25.ext) X27
      have K27 : OwnO tStr (fun _ => False) 9 w27 (.slice (some ⟨w24.heap.size, 0, none⟩) 0 0) [] (fun k => k = w24.heap.size) := OwnO.ext0 (OwnO.ofOwn (Own.ofNew (us := []) N25 .nil (by decide) rfl rfl) (fun _ => rfl)) X27
      refine .p rfl rfl (.as rfl) ?_
      refine .nil (.code (.seq (.keep [(7, _), (6, _), (5, _), (0, _)] ⟨rfl, rfl, rfl, rfl, trivial⟩ (.region ?_))))
      refine .p rfl rfl (.mv rfl) ?_
      refine .p rfl rfl (.len rfl rfl) ?_
      refine .p rfl rfl (.convU rfl rfl rfl (by omega)) ?_
      refine .call (first := []) (captured := []) rfl rfl rfl rfl (RefSmall_fn (n := (partF l).length) (by omega)) ?_
      rintro r31 w31 ⟨G31, X31⟩
      have z31 := X31.size
      have hs31 := smallF_length (partF l).length
      have I31 : OwnO tByte (fun _ => False) 5 w31 r31 (idxTo (partF l) 0) (fun k => w27.heap.size ≤ k ∧ ¬ k = w17.heap.size) := by unfold idxTo; rw [List.take_zero, List.map_nil, List.flatten_nil, List.append_nil]; exact OwnO.mono G31 (fun _ h _ => h) (fun k h _ => ⟨h, fun e => by have h : w27.heap.size ≤ k := h; omega⟩)
      refine .p rfl rfl (.as rfl) ?_
      refine .nil (.code (.seq (.seq (.keep [(8, _), (7, _), (6, _), (5, _), (0, _)] ⟨rfl, rfl, rfl, rfl, rfl, trivial⟩ (.region ?_)))))
      refine .p rfl rfl (.as rfl) ?_
      refine .nil (.code (.block ?_))
      refine .loop (S := Nat × Value × Value × (Nat → Prop) × World) (fun s => [(0, .slice a l.length cap), (5, s.2.1), (6, .slice (some ⟨w24.heap.size, 0, none⟩) 0 0), (7, .slice a27 (partF l).length c27), (8, s.2.2.1), (9, i64 s.1)]) (fun s => s.2.2.2.2) (fun s => s.1 ≤ (partF l).length ∧ (∀ k, s.2.2.2.1 k → k < s.2.2.2.2.heap.size ∧ (k = w17.heap.size ∨ w27.heap.size ≤ k)) ∧ OwnO tByte (fun _ => False) 5 s.2.2.2.2 s.2.1 (pagesTo (partF l) s.1) s.2.2.2.1 ∧ OwnO tByte (fun _ => False) 5 s.2.2.2.2 s.2.2.1 (idxTo (partF l) s.1) (fun k => w27.heap.size ≤ k ∧ ¬ s.2.2.2.1 k) ∧ Ext (· = w17.heap.size) w27 s.2.2.2.2) (fun s => (partF l).length - s.1) (0, _, r31, (· = w17.heap.size), w31) ⟨rfl, rfl, rfl, rfl, rfl, rfl, trivial⟩ rfl ⟨Nat.zero_le _, fun k h => ⟨by have h : k = w17.heap.size := h; show k < w31.heap.size; omega, .inl h⟩, OwnO.ext0 P27 X31, I31, X31.mono (fun _ _ h => h.elim)⟩ ?_
      rintro ⟨i, v5, v8, B, wi⟩ J ⟨hi', hBb, hP, hI, hX⟩ again
      simp only at hi' hBb hP hI hX
      have zwi := hX.size
      have hple := pagesTo_le (partF l) i
      change G _ [(0, .slice a l.length cap), (5, v5), (6, .slice (some ⟨w24.heap.size, 0, none⟩) 0 0), (7, .slice a27 (partF l).length c27), (8, v8), (9, i64 i)] _ _ wi
      refine .seq (.seq (.region ?_))
      refine .p rfl rfl (.mv rfl) ?_
      refine .p rfl rfl (.mv rfl) ?_
      refine .p rfl rfl (.len rfl rfl) ?_
      refine .p rfl rfl (.lt rfl rfl) ?_
      refine .nil (.code (.keep [(35, _), (0, _), (5, _), (6, _), (7, _), (8, _), (9, _)] ⟨rfl, rfl, rfl, rfl, rfl, rfl, rfl, trivial⟩ ?_))
      refine .condD rfl (fun c35 => ?_) (fun c35 => ?_)
      · have hi : i < (partF l).length := by omega
        obtain ⟨b1, o1, q1, ue1, e1, hb1, hcs1, hre1⟩ := Sl.at R27 (List.getElem?_eq_getElem hi)
        injection e1 with e1 _ _
        subst e1
        obtain ⟨ap, cp, rfl, hcp⟩ := Sl.val hre1
        have Rp : (Sl tEntry).rep (fun k => k < w27.heap.size ∧ k ≠ w17.heap.size) wi _ (partF l)[i] := (Sl tEntry).ext hre1 hX (fun k h _ e => h.2 e)
        have hpil := Sl.lim Rp
        simp only [Lim] at hpil
        refine .skip (.code (.seq (.block (.seq (.keep [(0, _), (5, _), (6, _), (7, _), (8, _), (9, _)] ⟨rfl, rfl, rfl, rfl, rfl, rfl, trivial⟩ (.region ?_))))))
        refine .p rfl rfl (.mv rfl) ?_
        refine .p rfl rfl (.mv rfl) ?_
        refine .p rfl rfl (.indexAddr1 rfl rfl rfl rfl (by omega)) ?_
        refine .p rfl rfl (.load rfl rfl rfl (cell_at rfl (hcs1.ext hX (fun e => hb1.2 e)) rfl)) ?_
        refine .p rfl rfl (.as rfl) ?_
        refine .nil (.code (.seq (.keep [(10, _), (0, _), (5, _), (6, _), (7, _), (8, _), (9, _)] ⟨rfl, rfl, rfl, rfl, rfl, rfl, rfl, trivial⟩ (.region ?_))))
        refine .p rfl rfl (.mv rfl) ?_
        refine .call (first := []) (captured := []) rfl rfl rfl rfl (Made_fn ((Sl tEntry).mono Rp (fun _ _ _ => trivial)) (part_check hck hi)) ?_
        rintro r43 w43 ⟨G43, X43⟩
        have z43 := X43.size
        have hpz := (partF_mem hck _ (List.getElem_mem hi)).2.2
        obtain ⟨a43, c43, rfl, hc43⟩ := OwnO.val G43
        refine .p rfl rfl (.as rfl) ?_
        refine .nil (.code (.seq (.keep [(11, _), (10, _), (0, _), (5, _), (6, _), (7, _), (8, _), (9, _)] ⟨rfl, rfl, rfl, rfl, rfl, rfl, rfl, rfl, trivial⟩ (.region ?_))))
        refine .p rfl rfl (.mv rfl) ?_
        refine .p rfl rfl (.mv rfl) ?_
        refine .v rfl rfl (.appendLo (t := tByte) (Q := fun _ => False) (B := fun k => B k ∨ w43.heap.size ≤ k) (eb := 1) rfl (OwnO.mono (OwnO.ext0 hP X43) (fun _ h _ => h) (fun k h _ => .inl h)) (fun k hk => .inr hk) rfl (Gr.holds (Gr.rep G43)) rfl rfl rfl rfl rfl rfl rfl (by omega) (by simp only [Lim]; omega) (fun _ h _ => h.elim)) ?_
        rintro r46 w46 ⟨G46, Y46⟩
        have z46 : w43.heap.size ≤ w46.heap.size := Y46.size
        have hI46 := OwnO.ext (OwnO.ext0 hI X43) Y46 (fun k h hk hB => by rcases hB with hB | hB; exact h.2 hB; omega) (fun _ h => h.elim)
        have hI46 : OwnO tByte (fun _ => False) 5 w46 v8 (idxTo (partF l) i) (fun k => w27.heap.size ≤ k ∧ ¬ (B k ∨ (w43.heap.size ≤ k ∧ k < w46.heap.size))) := OwnO.mono (OwnO.ext (OwnO.mono (OwnO.ext0 hI X43) (Q' := fun _ => False) (B' := fun k => (w27.heap.size ≤ k ∧ ¬ B k) ∧ k < w43.heap.size) (fun _ h _ => h) (fun k h hk => ⟨h, hk⟩)) Y46 (fun k h hk hB => by rcases hB with hB | hB; exact h.1.2 hB; omega) (fun _ h => h.elim)) (fun _ h _ => h) (fun k h _ => ⟨h.1.1, fun hh => by rcases hh with hh | hh; exact h.1.2 hh; omega⟩)
        have G46 := OwnO.mono G46 (Q' := fun _ => False) (B' := fun k => B k ∨ (w43.heap.size ≤ k ∧ k < w46.heap.size)) (fun _ h _ => h) (fun k h hk => h.imp id (fun h => ⟨h, hk⟩))
        obtain ⟨a46, c46, rfl, hc46⟩ := OwnO.val G46
        have hX46 : Ext (· = w17.heap.size) w27 w46 := (hX.trans (X43.mono (fun _ _ h => h.elim))).thenS Y46 (fun k h _ => by rcases h with h | h; exact (hBb k h).2; exact .inr (by omega))
        have Rp := (Sl tEntry).ext ((Sl tEntry).ext0 Rp X43) Y46 (fun k h hk hB => by have h : k < w27.heap.size ∧ k ≠ w17.heap.size := h; rcases hB with hB | hB; (have := (hBb k hB).2; omega); omega)
        have hne0 := List.length_pos_iff.2 (partF_mem hck _ (List.getElem_mem hi)).1
        have hkk := partF_keys hck _ (List.getElem_mem hi)
        rw [fst_eq hne0, lst_eq hne0] at hkk
        have hL := idx_len (partF_keys hck) i (by omega)
        have hIl : i * 542 ≤ 4097 * 542 := Nat.mul_le_mul_right _ (by omega)
        have ht1 := textF_length (partF l)[i][0].key
        have ht2 := textF_length (partF l)[i][(partF l)[i].length - 1].key
        have ht3 := smallF_length (pageB (partF l)[i]).length
        refine .p rfl rfl (.as rfl) ?_
        refine .nil (.code (.seq (.seq (.keep [(5, _), (11, _), (10, _), (0, _), (6, _), (7, _), (8, _), (9, _)] ⟨rfl, rfl, rfl, rfl, rfl, rfl, rfl, rfl, trivial⟩ (.region ?_)))))
        refine .p rfl rfl (.mv rfl) ?_
        refine .p rfl rfl (.len rfl rfl) ?_
        refine .p rfl rfl (.gt rfl rfl) ?_
        refine .nil (.code (.keep [(49, _), (5, _), (11, _), (10, _), (0, _), (6, _), (7, _), (8, _), (9, _)] ⟨rfl, rfl, rfl, rfl, rfl, rfl, rfl, rfl, rfl, trivial⟩ ?_))
        refine .condD rfl (fun c49 => ?_) (fun c49 => ?_)
        · refine .seq (.keep [] trivial (.region ?_))
          refine .p rfl rfl (.as rfl) ?_
          refine .p rfl rfl (.as rfl) ?_
          refine .nil (.code ?_)
          refine .ret _ rfl ?_
          have hbig : 524288 < (tableB l).length := by have h1 := pagesTo_le (partF l) (i + 1); rw [pagesTo_succ hi] at h1; have h2 := tableB_le l; omega
          have e : makeT l = ([], 7) := by unfold makeT; rw [if_neg c19, if_neg hne, if_pos hbig]
          rw [e]
          exact ⟨_, rfl, OwnO.nil, (X025.trans X27).then hX46 (fun k h _ => by have h : k = w17.heap.size := h; omega)⟩
        · obtain ⟨b2, o2, q2, ue2, e2, hb2, hcs2, hre2⟩ := Sl.at Rp (List.getElem?_eq_getElem hne0)
          cases e2
          obtain ⟨rfl, _⟩ := tEntry.val hre2
          have Rp0 := Rp
          refine .skip (.code (.seq (.keep [(5, _), (11, _), (10, _), (0, _), (6, _), (7, _), (8, _), (9, _)] ⟨rfl, rfl, rfl, rfl, rfl, rfl, rfl, rfl, trivial⟩ (.region ?_))))
          refine .p rfl rfl (.mv rfl) ?_
          refine .p rfl rfl (.mv rfl) ?_
          refine .p rfl rfl (.indexAddr (s := 4) rfl rfl rfl rfl (by omega)) ?_
          refine .p rfl rfl (.fieldAddr rfl rfl rfl rfl) ?_
          refine .p rfl rfl (.load rfl rfl rfl (hcs2 0 _ rfl)) ?_
          refine .call (first := []) (captured := []) rfl rfl rfl rfl (RefText_fn (l := (partF l)[i][0].key) (by simp only [Lim]; omega) (by simp only [Lim]; omega)) ?_
          rintro r55 w55 ⟨G55, X55⟩
          have z55 := X55.size
          refine .v rfl rfl (.appendLo (t := tByte) (Q := fun _ => False) (B := (fun k => w27.heap.size ≤ k ∧ ¬ (B k ∨ (w43.heap.size ≤ k ∧ k < w46.heap.size)))) (eb := 1) rfl (OwnO.ext0 hI46 X55) (fun k hk => by have hk : w55.heap.size ≤ k := hk; exact ⟨by omega, fun h => by rcases h with h | h; (have := (hBb k h).1; omega); omega⟩) rfl (Gr.holds (Gr.rep G55)) rfl rfl rfl rfl rfl rfl rfl (by (try simp only [List.length_append]); omega) (by simp only [List.length_append, Lim]; omega) (fun _ h _ => h.elim)) ?_
          rintro r56 w56 ⟨G56, Y56⟩
          have z56 : w55.heap.size ≤ w56.heap.size := Y56.size
          refine .p rfl rfl (.as rfl) ?_
          refine .nil (.code (.seq (.keep [(8, _), (5, _), (11, _), (10, _), (0, _), (6, _), (7, _), (9, _)] ⟨rfl, rfl, rfl, rfl, rfl, rfl, rfl, rfl, trivial⟩ (.region ?_))))
          obtain ⟨b3, o3, q3, ue3, e3, hb3, hcs3, hre3⟩ := Sl.at ((Sl tEntry).ext ((Sl tEntry).ext0 Rp X55) Y56 (fun k h _ h2 => by have h : k < w27.heap.size ∧ k ≠ w17.heap.size := h; have h2 : w27.heap.size ≤ k := h2.1; omega)) (i := (partF l)[i].length - 1) (List.getElem?_eq_getElem (by omega))
          cases e3
          obtain ⟨rfl, _⟩ := tEntry.val hre3
          refine .p rfl rfl (.mv rfl) ?_
          refine .p rfl rfl (.mv rfl) ?_
          refine .p rfl rfl (.mv rfl) ?_
          refine .p rfl rfl (.len rfl rfl) ?_
          refine .p rfl rfl (.sub rfl rfl (by omega)) ?_
          refine .p rfl rfl (.indexAddr (s := 4) rfl rfl rfl rfl (by omega)) ?_
          refine .p rfl rfl (.fieldAddr rfl rfl rfl rfl) ?_
          refine .p rfl rfl (.load rfl rfl rfl (by rw [show (((partF l)[i].length : Int) - 1).toNat = (partF l)[i].length - 1 by omega]; exact hcs3 0 _ rfl)) ?_
          refine .call (first := []) (captured := []) rfl rfl rfl rfl (RefText_fn (l := (partF l)[i][(partF l)[i].length - 1].key) (by simp only [Lim]; omega) (by simp only [Lim]; omega)) ?_
          rintro r65 w65 ⟨G65, X65⟩
          have z65 := X65.size
          refine .v rfl rfl (.appendLo (t := tByte) (Q := fun _ => False) (B := (fun k => w27.heap.size ≤ k ∧ ¬ (B k ∨ (w43.heap.size ≤ k ∧ k < w46.heap.size)))) (eb := 1) rfl (OwnO.ext0 G56 X65) (fun k hk => by have hk : w65.heap.size ≤ k := hk; exact ⟨by omega, fun h => by rcases h with h | h; (have := (hBb k h).1; omega); omega⟩) rfl (Gr.holds (Gr.rep G65)) rfl rfl rfl rfl rfl rfl rfl (by (try simp only [List.length_append]); omega) (by simp only [List.length_append, Lim]; omega) (fun _ h _ => h.elim)) ?_
          rintro r66 w66 ⟨G66, Y66⟩
          have z66 : w65.heap.size ≤ w66.heap.size := Y66.size
          refine .p rfl rfl (.as rfl) ?_
          refine .nil (.code (.keep [(8, _), (5, _), (11, _), (0, _), (6, _), (7, _), (9, _)] ⟨rfl, rfl, rfl, rfl, rfl, rfl, rfl, trivial⟩ (.region ?_)))
          refine .p rfl rfl (.mv rfl) ?_
          refine .p rfl rfl (.mv rfl) ?_
          refine .p rfl rfl (.len rfl rfl) ?_
          refine .p rfl rfl (.convU rfl rfl rfl (by omega)) ?_
          refine .call (first := []) (captured := []) rfl rfl rfl rfl (RefSmall_fn (n := (pageB (partF l)[i]).length) (by omega)) ?_
          rintro r71 w71 ⟨G71, X71⟩
          have z71 := X71.size
          refine .v rfl rfl (.appendLo (t := tByte) (Q := fun _ => False) (B := (fun k => w27.heap.size ≤ k ∧ ¬ (B k ∨ (w43.heap.size ≤ k ∧ k < w46.heap.size)))) (eb := 1) rfl (OwnO.ext0 G66 X71) (fun k hk => by have hk : w71.heap.size ≤ k := hk; exact ⟨by omega, fun h => by rcases h with h | h; (have := (hBb k h).1; omega); omega⟩) rfl (Gr.holds (Gr.rep G71)) rfl rfl rfl rfl rfl rfl rfl (by (try simp only [List.length_append]); omega) (by simp only [List.length_append, Lim]; omega) (fun _ h _ => h.elim)) ?_
          rintro r72 w72 ⟨G72, Y72⟩
          have z72 : w71.heap.size ≤ w72.heap.size := Y72.size
          refine .p rfl rfl (.as rfl) ?_
          refine .nil (.blk (.code (.keep [(8, _), (5, _), (0, _), (6, _), (7, _), (9, _)] ⟨rfl, rfl, rfl, rfl, rfl, rfl, trivial⟩ (.region ?_))))
          refine .p rfl rfl (.mv rfl) ?_
          refine .p rfl rfl (.add rfl rfl (by omega)) ?_
          refine .p rfl rfl (.as rfl) ?_
          refine .nil ?_
          have eI : idxTo (partF l) (i + 1) = idxTo (partF l) i ++ textF (partF l)[i][0].key ++ textF (partF l)[i][(partF l)[i].length - 1].key ++ smallF (pageB (partF l)[i]).length := by rw [idx_succ hi, fst_eq hne0, lst_eq hne0]
          have hw27 : ∀ k, (w27.heap.size ≤ k ∧ ¬ (B k ∨ (w43.heap.size ≤ k ∧ k < w46.heap.size))) → ¬ (B k ∨ (w43.heap.size ≤ k ∧ k < w46.heap.size)) := fun k h => h.2
          have P72 := OwnO.ext (OwnO.ext0 (OwnO.ext (OwnO.ext0 (OwnO.ext (OwnO.ext0 G46 X55) Y56 (fun k h _ h2 => hw27 k h2 h) (fun _ h => h.elim)) X65) Y66 (fun k h _ h2 => hw27 k h2 h) (fun _ h => h.elim)) X71) Y72 (fun k h _ h2 => hw27 k h2 h) (fun _ h => h.elim)
          exact (again (i + 1, _, r72, (fun k => B k ∨ (w43.heap.size ≤ k ∧ k < w46.heap.size)), w72) ⟨by show i + 1 ≤ _; omega, fun k h => by
              show k < w72.heap.size ∧ _
              rcases h with h | h
              · have := hBb k h
                exact ⟨by omega, this.2⟩
              · exact ⟨by omega, .inr (by omega)⟩, by show OwnO tByte _ _ w72 _ (pagesTo (partF l) (i + 1)) _; rw [pagesTo_succ hi]; exact P72, by show OwnO tByte _ _ w72 r72 (idxTo (partF l) (i + 1)) _; rw [eI]; exact G72,
            (((((hX46.trans (X55.mono (fun _ _ h => h.elim))).thenS Y56 (fun k h _ => .inr h.1)).trans (X65.mono (fun _ _ h => h.elim))).thenS Y66 (fun k h _ => .inr h.1)).trans (X71.mono (fun _ _ h => h.elim))).thenS Y72 (fun k h _ => .inr h.1)⟩ (by show _ - (i + 1) < _ - i; omega)).of ⟨rfl, rfl, rfl, rfl, rfl, rfl, trivial⟩
      · obtain rfl : i = (partF l).length := by omega
        rw [pagesTo_all] at hP
        rw [idx_all] at hI
        obtain ⟨a5, c5, rfl, hc5⟩ := OwnO.val hP
        obtain ⟨a8, c8, rfl, hc8⟩ := OwnO.val hI
        have hK := OwnO.mono (OwnO.ext K27 hX (fun k h _ e => by have h : k = w24.heap.size := h; have e : k = w17.heap.size := e; omega) (fun _ h => h.elim)) (Q' := fun _ => False) (B' := fun k => k = w24.heap.size ∨ wi.heap.size ≤ k) (fun _ h _ => h) (fun k h _ => .inl h)
        have X0i : Ext (fun _ => False) w wi := (X025.trans X27).then hX (fun k h _ => by have h : k = w17.heap.size := h; omega)
        refine .exit rfl (.code (.seq (.seq (.keep [(0, _), (5, _), (6, _), (8, _)] ⟨rfl, rfl, rfl, rfl, trivial⟩ (.region ?_)))))
        refine .p rfl rfl (.as rfl) ?_
        refine .nil (.code (.block ?_))
        refine .loop (S := Nat × Value × World) (fun s => [(0, .slice a l.length cap), (5, .slice a5 (pagesB (partF l)).length c5), (6, s.2.1), (8, .slice a8 (indexB (partF l)).length c8), (12, i64 s.1)]) (fun s => s.2.2) (fun s => s.1 ≤ l.length ∧ OwnO tStr (fun _ => False) 9 s.2.2 s.2.1 ((l.take s.1).map (·.key)) (fun k => k = w24.heap.size ∨ wi.heap.size ≤ k) ∧ Ext (· = w24.heap.size) wi s.2.2) (fun s => l.length - s.1) (0, _, wi) ⟨rfl, rfl, rfl, rfl, rfl, trivial⟩ rfl ⟨Nat.zero_le _, hK, .refl _⟩ ?_
        rintro ⟨i4, v6, w4⟩ J4 ⟨hi4', hK, hX4w⟩ again4
        simp only at hi4' hK hX4w
        have zw4 := hX4w.size
        have X04 : Ext (fun _ => False) w w4 := X0i.then hX4w (fun k h _ => by have h : k = w24.heap.size := h; omega)
        have hX4 := X04
        have hP4 := OwnO.ext hP hX4w (fun k h _ e => by have := (hBb k h).2; have e : k = w24.heap.size := e; omega) (fun _ h => h.elim)
        have hI4 := OwnO.ext hI hX4w (fun k h _ e => by have := h.1; have e : k = w24.heap.size := e; omega) (fun _ h => h.elim)
        change G _ [(0, .slice a l.length cap), (5, .slice a5 (pagesB (partF l)).length c5), (6, v6), (8, .slice a8 (indexB (partF l)).length c8), (12, i64 i4)] _ _ w4
        refine .seq (.seq (.region ?_))
        refine .p rfl rfl (.mv rfl) ?_
        refine .p rfl rfl (.mv rfl) ?_
        refine .p rfl rfl (.len rfl rfl) ?_
        refine .p rfl rfl (.lt rfl rfl) ?_
        refine .nil (.code (.keep [(76, _), (0, _), (5, _), (6, _), (8, _), (12, _)] ⟨rfl, rfl, rfl, rfl, rfl, rfl, trivial⟩ ?_))
        refine .condD rfl (fun c76 => ?_) (fun c76 => ?_)
        · have hi4 : i4 < l.length := by omega
          obtain ⟨b4, o4, q4, ue4, e4, hb4, hcs4, hre4⟩ := Sl.at h (List.getElem?_eq_getElem hi4)
          cases e4
          obtain ⟨rfl, _, _, _⟩ := tEntry.val hre4
          have hk0 := (one_ok (hone _ (List.getElem_mem hi4))).2.1
          have hb4 : b4 < w.heap.size := hb4
          refine .skip (.code (.seq (.block (.keep [(0, _), (5, _), (6, _), (8, _), (12, _)] ⟨rfl, rfl, rfl, rfl, rfl, trivial⟩ (.region ?_)))))
          refine .p rfl rfl (.mv rfl) ?_
          refine .p rfl rfl (.mv rfl) ?_
          refine .p rfl rfl (.mv rfl) ?_
          refine .p rfl rfl (.indexAddr (s := 4) rfl rfl rfl rfl (by omega)) ?_
          refine .p rfl rfl (.fieldAddr rfl rfl rfl rfl) ?_
          refine .p rfl rfl (.load rfl rfl rfl ((hcs4.ext hX4 (fun x => x)) 0 _ rfl)) ?_
          refine .v rfl rfl (.lits rfl rfl (fun _ => by kernel_rfl)) ?_
          rintro _ w85 ⟨rfl, N85⟩
          have z85 := N85.size
          refine .v rfl rfl (.appendLo (t := tStr) (Q := fun _ => False) (xs := (l.take i4).map (·.key)) (ys := [l[i4].key]) (B := fun k => k = w24.heap.size ∨ wi.heap.size ≤ k) (eb := 16) rfl (OwnO.ext0 hK N85.ext) (fun k hk => .inr (by have hk : w85.heap.size ≤ k := hk; omega)) rfl (.inr (New.holds (t := tStr) (us := [_]) (xs := [l[i4].key]) N85 (.cons (show tStr.rep _ _ (str l[i4].key) l[i4].key from ⟨rfl, by simp only [Lim]; omega⟩) .nil) rfl)) rfl rfl rfl rfl rfl rfl rfl (by simp; omega) (by simp [Lim]; omega) (fun _ h _ => h.elim)) ?_
          rintro r86 w86 ⟨O86, Y86⟩
          refine .p rfl rfl (.as rfl) ?_
          refine .nil (.blk (.code (.keep [(6, _), (0, _), (5, _), (8, _), (12, _)] ⟨rfl, rfl, rfl, rfl, rfl, trivial⟩ (.region ?_))))
          refine .p rfl rfl (.mv rfl) ?_
          refine .p rfl rfl (.add rfl rfl (by omega)) ?_
          refine .p rfl rfl (.as rfl) ?_
          refine .nil ?_
          exact (again4 (i4 + 1, r86, w86) ⟨by show i4 + 1 ≤ _; omega, by show OwnO tStr _ _ w86 r86 ((l.take (i4 + 1)).map _) _; rw [List.take_succ_eq_append_getElem hi4, List.map_append]; exact O86, (hX4w.trans (N85.ext.mono (fun _ _ h => h.elim))).thenS Y86 (fun k h _ => h)⟩ (by show _ - (i4 + 1) < _ - i4; omega)).of ⟨rfl, rfl, rfl, rfl, rfl, trivial⟩
        · obtain rfl : i4 = l.length := by omega
          rw [List.take_length] at hK
          refine .exit rfl (.code (.seq (.keep [(0, _), (5, _), (6, _), (8, _)] ⟨rfl, rfl, rfl, rfl, trivial⟩ (.region ?_))))
          refine .p rfl rfl (.mv rfl) ?_
          refine .p rfl rfl (.mv rfl) ?_
          refine .p rfl rfl (.len rfl rfl) ?_
          refine .p rfl rfl (.mul rfl rfl (by omega)) ?_
          refine .p rfl rfl (.add rfl rfl (by omega)) ?_
          refine .p rfl rfl (.quo rfl rfl (by omega)) ?_
          refine .p rfl rfl (.cast (.mul rfl rfl (by omega)) (show _ = i64 ((manyB l.length : Nat) : Int) from congrArg i64 (by unfold manyB; omega))) ?_
          refine .call (first := []) (captured := []) rfl rfl rfl rfl (RefSieveMake_fn (many := (manyB l.length : Int)) (OwnO.rep hK (fun _ _ _ => trivial) (fun _ h _ => h.elim))) ?_
          rintro _ w95 ⟨v95, rfl, R95, X95⟩
          have z95 := X95.size
          obtain ⟨hs0, hsl⟩ := sieve_ok hck hne
          have R95 : tBytes.rep (fun k => w4.heap.size ≤ k ∧ k < w95.heap.size) w95 v95 (sieveB l) := tBytes.mono R95 (fun k h hk => ⟨h, hk⟩)
          obtain ⟨a95, c95, rfl, hc95⟩ := Sl.val R95
          have hI95 := OwnO.ext0 hI4 X95
          have hP95 := OwnO.ext0 hP4 X95
          have hBb4 : ∀ k, B k → k < w4.heap.size := fun k h => Nat.lt_of_lt_of_le (hBb k h).1 zw4
          have h8p := put8_length (pagesB (partF l)).length
          have h8i := put8_length (indexB (partF l)).length
          have h8s := put8_length (sieveB l).length
          refine .p rfl rfl (.mv rfl) ?_
          refine .p rfl rfl (.extract rfl rfl) ?_
          refine .p rfl rfl (.extract rfl rfl) ?_
          refine .p rfl rfl (.as rfl) ?_
          refine .p rfl rfl (.as rfl) ?_
          refine .nil (.code (.seq (.keep [(13, _), (5, _), (8, _)] ⟨rfl, rfl, rfl, trivial⟩ (.region ?_))))
          refine .p rfl rfl (.mv rfl) ?_
          refine .p rfl rfl (.mv rfl) ?_
          refine .v rfl rfl (.appendLo (t := tByte) (Q := fun _ => False) (B := (fun k => B k ∨ w95.heap.size ≤ k)) (eb := 1) rfl (OwnO.mono hP95 (fun _ h _ => h) (fun k h _ => .inl h)) (fun k hk => .inr (by have hk : w95.heap.size ≤ k := hk; omega)) rfl (Gr.holds (OwnO.rep hI95 (R := All) (fun _ _ _ => trivial) (fun _ h _ => h.elim))) rfl rfl rfl rfl rfl rfl rfl (by (try simp only [List.length_append, put8_length]); omega) (by simp only [List.length_append, put8_length, Lim]; omega) (fun _ h _ => h.elim)) ?_
          rintro r100 w100 ⟨G100, Y100⟩
          have z100 : w95.heap.size ≤ w100.heap.size := Y100.size
          have R100 := tBytes.ext R95 Y100 (fun k h _ hB => by have h : w4.heap.size ≤ k ∧ k < w95.heap.size := h; rcases hB with hB | hB; (have := hBb4 k hB; omega); omega)
          refine .p rfl rfl (.as rfl) ?_
          refine .nil (.code (.seq (.keep [(15, _), (13, _), (5, _), (8, _)] ⟨rfl, rfl, rfl, rfl, trivial⟩ (.region ?_))))
          refine .p rfl rfl (.mv rfl) ?_
          refine .p rfl rfl (.mv rfl) ?_
          refine .v rfl rfl (.appendLo (t := tByte) (Q := fun _ => False) (B := (fun k => B k ∨ w95.heap.size ≤ k)) (eb := 1) rfl G100 (fun k hk => .inr (by have hk : w100.heap.size ≤ k := hk; omega)) rfl (Gr.holds R100) rfl rfl rfl rfl rfl rfl rfl (by (try simp only [List.length_append, put8_length]); omega) (by simp only [List.length_append, put8_length, Lim]; omega) (fun _ h _ => h.elim)) ?_
          rintro r103 w103 ⟨G103, Y103⟩
          have z103 : w100.heap.size ≤ w103.heap.size := Y103.size
          refine .p rfl rfl (.as rfl) ?_
          refine .nil (.code (.seq (.keep [(15, _), (13, _), (5, _), (8, _)] ⟨rfl, rfl, rfl, rfl, trivial⟩ (.region ?_))))
          refine .p rfl rfl (.mv rfl) ?_
          refine .p rfl rfl (.mv rfl) ?_
          refine .p rfl rfl (.len rfl rfl) ?_
          refine .p rfl rfl (.convU rfl rfl rfl (by omega)) ?_
          refine .call (first := []) (captured := []) rfl rfl rfl rfl (RefPut_fn (n := (pagesB (partF l)).length) (by omega)) ?_
          rintro r108 w108 ⟨R108, X108⟩
          have z108 : w103.heap.size ≤ w108.heap.size := X108.size
          refine .v rfl rfl (.appendLo (t := tByte) (Q := fun _ => False) (B := (fun k => B k ∨ w95.heap.size ≤ k)) (eb := 1) rfl (OwnO.ext0 G103 X108) (fun k hk => .inr (by have hk : w108.heap.size ≤ k := hk; omega)) rfl (Gr.holds R108) rfl rfl rfl rfl rfl rfl rfl (by (try simp only [List.length_append, put8_length]); omega) (by simp only [List.length_append, put8_length, Lim]; omega) (fun _ h _ => h.elim)) ?_
          rintro r109 w109 ⟨G109, Y109⟩
          have z109 : w108.heap.size ≤ w109.heap.size := Y109.size
          refine .p rfl rfl (.as rfl) ?_
          refine .nil (.code (.seq (.keep [(15, _), (13, _), (8, _)] ⟨rfl, rfl, rfl, trivial⟩ (.region ?_))))
          refine .p rfl rfl (.mv rfl) ?_
          refine .p rfl rfl (.mv rfl) ?_
          refine .p rfl rfl (.len rfl rfl) ?_
          refine .p rfl rfl (.convU rfl rfl rfl (by omega)) ?_
          refine .call (first := []) (captured := []) rfl rfl rfl rfl (RefPut_fn (n := (indexB (partF l)).length) (by omega)) ?_
          rintro r114 w114 ⟨R114, X114⟩
          have z114 : w109.heap.size ≤ w114.heap.size := X114.size
          refine .v rfl rfl (.appendLo (t := tByte) (Q := fun _ => False) (B := (fun k => B k ∨ w95.heap.size ≤ k)) (eb := 1) rfl (OwnO.ext0 G109 X114) (fun k hk => .inr (by have hk : w114.heap.size ≤ k := hk; omega)) rfl (Gr.holds R114) rfl rfl rfl rfl rfl rfl rfl (by (try simp only [List.length_append, put8_length]); omega) (by simp only [List.length_append, put8_length, Lim]; omega) (fun _ h _ => h.elim)) ?_
          rintro r115 w115 ⟨G115, Y115⟩
          have z115 : w114.heap.size ≤ w115.heap.size := Y115.size
          refine .p rfl rfl (.as rfl) ?_
          refine .nil (.code (.seq (.keep [(15, _), (13, _)] ⟨rfl, rfl, trivial⟩ (.region ?_))))
          refine .p rfl rfl (.mv rfl) ?_
          refine .p rfl rfl (.mv rfl) ?_
          refine .p rfl rfl (.len rfl rfl) ?_
          refine .p rfl rfl (.convU rfl rfl rfl (by omega)) ?_
          refine .call (first := []) (captured := []) rfl rfl rfl rfl (RefPut_fn (n := (sieveB l).length) (by omega)) ?_
          rintro r120 w120 ⟨R120, X120⟩
          have z120 : w115.heap.size ≤ w120.heap.size := X120.size
          refine .v rfl rfl (.appendLo (t := tByte) (Q := fun _ => False) (B := (fun k => B k ∨ w95.heap.size ≤ k)) (eb := 1) rfl (OwnO.ext0 G115 X120) (fun k hk => .inr (by have hk : w120.heap.size ≤ k := hk; omega)) rfl (Gr.holds R120) rfl rfl rfl rfl rfl rfl rfl (by (try simp only [List.length_append, put8_length]); omega) (by simp only [List.length_append, put8_length, Lim]; omega) (fun _ h _ => h.elim)) ?_
          rintro r121 w121 ⟨G121, Y121⟩
          have z121 : w120.heap.size ≤ w121.heap.size := Y121.size
          have G121 : OwnO tByte (fun _ => False) 5 w121 r121 (preT l) (fun k => B k ∨ w95.heap.size ≤ k) := G121
          have hprl : (preT l).length ≤ 30000000 := by unfold preT; simp only [List.length_append, put8_length]; omega
          refine .p rfl rfl (.as rfl) ?_
          refine .nil (.code (.seq (.keep [(15, _)] ⟨rfl, trivial⟩ (.region ?_))))
          refine .p rfl rfl (.mv rfl) ?_
          refine .call (first := []) (captured := []) rfl rfl rfl rfl (Summed_fn G121 (fun k hk => .inr (by omega)) (by simp only [Lim]; omega)) ?_
          rintro r123 w123 ⟨G123, Y123⟩
          have G123 : OwnO tByte (fun _ => False) 5 w123 r123 (tableB l) (fun k => B k ∨ w95.heap.size ≤ k) := G123
          obtain ⟨a123, c123, rfl, hc123⟩ := OwnO.val G123
          have hBlo : ∀ k, (B k ∨ w95.heap.size ≤ k) → w.heap.size ≤ k := fun k h => by rcases h with h | h; (have := (hBb k h).2; omega); omega
          have Zf : Ext (fun _ => False) w w123 := ((((((((X04.trans X95).then Y100 (fun k h _ => hBlo k h)).then Y103 (fun k h _ => hBlo k h)).trans X108).then Y109 (fun k h _ => hBlo k h)).trans X114).then Y115 (fun k h _ => hBlo k h)).trans X120).then Y121 (fun k h _ => hBlo k h) |>.then Y123 (fun k h _ => hBlo k h)
          refine .p rfl rfl (.as rfl) ?_
          refine .nil (.code (.seq (.seq (.keep [(15, _)] ⟨rfl, trivial⟩ (.region ?_)))))
          refine .p rfl rfl (.mv rfl) ?_
          refine .p rfl rfl (.len rfl rfl) ?_
          refine .p rfl rfl (.gt rfl rfl) ?_
          refine .nil (.code (.keep [(126, _), (15, _)] ⟨rfl, rfl, trivial⟩ ?_))
          refine .condD rfl (fun c126 => ?_) (fun c126 => ?_)
          · refine .seq (.keep [] trivial (.region ?_))
            refine .p rfl rfl (.as rfl) ?_
            refine .p rfl rfl (.as rfl) ?_
            refine .nil (.code ?_)
            refine .ret _ rfl ?_
            have e : makeT l = ([], 7) := by unfold makeT; rw [if_neg c19, if_neg hne, if_pos (by omega)]
            rw [e]
            exact ⟨_, rfl, OwnO.nil, Zf⟩
          · refine .skip (.code (.seq (.keep [(15, _)] ⟨rfl, trivial⟩ (.region ?_))))
            refine .p rfl rfl (.mv rfl) ?_
            refine .p rfl rfl (.as rfl) ?_
            refine .p rfl rfl (.as rfl) ?_
            refine .nil (.code ?_)
            refine .ret _ rfl ?_
            have e : makeT l = (tableB l, 0) := by unfold makeT; rw [if_neg c19, if_neg hne, if_neg (by omega)]
            rw [e]
            exact ⟨_, rfl, OwnO.mono G123 (fun _ h _ => h) (fun k h _ => hBlo k h), Zf⟩
end Go.Proofs.Ythkgadhamecnlaa
