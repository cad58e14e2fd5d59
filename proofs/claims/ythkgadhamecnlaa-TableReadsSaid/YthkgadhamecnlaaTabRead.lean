
/-
  Layer 9, data: a table taken apart, and put together again.
-/
import Derived.Test.YthkgadhamecnlaaTabMake
import Derived.Test.YthkgadhamecnlaaLaw08d
set_option linter.unusedVariables false
set_option linter.unusedSimpArgs false
set_option maxRecDepth 20000
namespace Go.Proofs.Ythkgadhamecnlaa
open Go page
namespace table
structure Row where
  fst : Bs
  lst : Bs
  bytes : Bs
  ents : List Entry
def badRow (all idx : Bs) : Prop := ¬ (cutF idx).2.2 = 0 ∨ ¬ (cutF (cutF idx).2.1).2.2 = 0 ∨ ¬ (readF (cutF (cutF idx).2.1).2.1).2.2 = 0 ∨ all.length < (readF (cutF (cutF idx).2.1).2.1).1
noncomputable instance (all idx : Bs) : Decidable (badRow all idx) := Classical.propDecidable _
def sizeR (idx : Bs) : Nat := (readF (cutF (cutF idx).2.1).2.1).1
def rowR (all idx : Bs) : Row := ⟨(cutF idx).1, (cutF (cutF idx).2.1).1, all.take (sizeR idx), (readE (all.take (sizeR idx))).1⟩
def restR (idx : Bs) : Bs := (cutF (cutF idx).2.1).2.1.drop (readF (cutF (cutF idx).2.1).2.1).2.1
noncomputable def rowsF : Nat → Bs → Bs → Option (List Row)
  | 0, _, _ => some []
  | n + 1, all, idx => if badRow all idx then none else if ¬ (readE (all.take (sizeR idx))).2 = 0 then none else (rowsF n (all.drop (sizeR idx)) (restR idx)).map (rowR all idx :: ·)
theorem rowsF_bad1 {n : Nat} {all idx : Bs} (h : badRow all idx) : rowsF (n + 1) all idx = none := by rw [rowsF, if_pos h]
theorem rowsF_bad2 {n : Nat} {all idx : Bs} (h : ¬ (readE (all.take (sizeR idx))).2 = 0) : rowsF (n + 1) all idx = none := by
  rw [rowsF]
  by_cases hb : badRow all idx
  · rw [if_pos hb]
  · rw [if_neg hb, if_pos h]
theorem rowsF_step {n : Nat} {all idx : Bs} (h1 : ¬ badRow all idx) (h2 : (readE (all.take (sizeR idx))).2 = 0) : rowsF (n + 1) all idx = (rowsF n (all.drop (sizeR idx)) (restR idx)).map (rowR all idx :: ·) := by rw [rowsF, if_neg h1, if_neg (fun hn => hn h2)]
def okSum (b : Bs) : Prop := 28 ≤ b.length ∧ b.length ≤ 524288 ∧ b.drop (b.length - 4) = sum4 (b.take (b.length - 4))
noncomputable instance (b : Bs) : Decidable (okSum b) := Classical.propDecidable _
def get8 (l : Bs) : Nat := if l.length = 8 then getTo l 8 else 0
def inB (b : Bs) : Bs := b.take (b.length - 28)
def endB (b : Bs) : Bs := b.drop (b.length - 28)
def nB (b : Bs) : Nat := get8 ((endB b).take 8)
def kB (b : Bs) : Nat := get8 (((endB b).take 16).drop 8)
def allB (b : Bs) : Bs := (inB b).take (nB b)
def idxB (b : Bs) : Bs := ((inB b).take (nB b + kB b)).drop (nB b)
def sieveOf (b : Bs) : Bs := (inB b).drop (nB b + kB b)
def manyR (b : Bs) : Nat := min (readF (idxB b)).1 b.length
noncomputable def rowsB (b : Bs) : Option (List Row) := rowsF (manyR b) (allB b) ((idxB b).drop (readF (idxB b)).2.1)
def entsR (rows : List Row) : List Entry := (rows.map (·.ents)).flatten
noncomputable def openF (b : Bs) : Option (List Row) :=
  if ¬ okSum b then none else if (inB b).length < nB b ∨ (inB b).length - nB b < kB b then none else if ¬ (readF (idxB b)).2.2 = 0 then none else
  match rowsB b with
  | none => none
  | some rows => if ¬ (makeT (entsR rows)).2 = 0 ∨ ¬ (makeT (entsR rows)).1 = b then none else some rows
theorem open_bad1 {b : Bs} (h : ¬ okSum b) : openF b = none := by unfold openF; rw [if_pos h]
theorem open_bad2 {b : Bs} (h : (inB b).length < nB b ∨ (inB b).length - nB b < kB b) : openF b = none := by
  unfold openF
  by_cases h1 : okSum b
  · rw [if_neg (fun hn => hn h1), if_pos h]
  · rw [if_pos h1]
theorem open_bad3 {b : Bs} (h : ¬ (readF (idxB b)).2.2 = 0) : openF b = none := by
  by_cases h2 : (inB b).length < nB b ∨ (inB b).length - nB b < kB b
  · exact open_bad2 h2
  · unfold openF
    by_cases h1 : okSum b
    · rw [if_neg (fun hn => hn h1), if_neg h2, if_pos h]
    · rw [if_pos h1]
theorem open_bad4 {b : Bs} (h : rowsB b = none) : openF b = none := by
  by_cases h3 : (readF (idxB b)).2.2 = 0
  · by_cases h2 : (inB b).length < nB b ∨ (inB b).length - nB b < kB b
    · exact open_bad2 h2
    · unfold openF
      by_cases h1 : okSum b
      · rw [if_neg (fun hn => hn h1), if_neg h2, if_neg (fun hn => hn h3), h]
      · rw [if_pos h1]
  · exact open_bad3 h3
theorem open_rows {b : Bs} {rows : List Row} (h1 : okSum b) (h2 : ¬ ((inB b).length < nB b ∨ (inB b).length - nB b < kB b)) (h3 : (readF (idxB b)).2.2 = 0) (h : rowsB b = some rows) : openF b = if ¬ (makeT (entsR rows)).2 = 0 ∨ ¬ (makeT (entsR rows)).1 = b then none else some rows := by
  unfold openF; rw [if_neg (fun hn => hn h1), if_neg h2, if_neg (fun hn => hn h3), h]
theorem open_made {b : Bs} {rows : List Row} (h : openF b = some rows) : makeT (entsR rows) = (b, 0) := by
  unfold openF at h
  split at h
  · cases h
  · split at h
    · cases h
    · split at h
      · cases h
      · split at h
        · cases h
        · rename_i rows' _
          split at h
          · cases h
          · rename_i hc
            cases h
            exact Prod.ext (Decidable.not_not.1 (fun hn => hc (.inr hn))) (Decidable.not_not.1 (fun hn => hc (.inl hn)))
/-- numbers read again -/
theorem getTo_put (n : Nat) : ∀ i, i ≤ 8 → getTo (put8 n) i = n % 2 ^ (8 * i)
  | 0, _ => by simp [getTo, Nat.mod_one]
  | i + 1, h => by
    have e : (put8 n).getD i 0 = byteOf n i := by
      unfold put8
      rw [List.getD_eq_getElem?_getD, List.getElem?_map, List.getElem?_range (by omega)]
      rfl
    have e2 : (byteOf n i).toNat = n / 2 ^ (8 * i) % 256 := by unfold byteOf; simp
    rw [getTo, getTo_put n i (by omega), e, e2, show 8 * (i + 1) = 8 * i + 8 by omega, Nat.pow_add, Nat.mod_mul, Nat.mul_comm (n / 2 ^ (8 * i) % 256)]
theorem get8_put {n : Nat} (h : n < 18446744073709551616) : get8 (put8 n) = n := by
  unfold get8
  rw [if_pos (put8_length n), getTo_put n 8 (by omega)]
  exact Nat.mod_eq_of_lt h
def rowOf (q : List Entry) : Row := ⟨fstK q, lstK q, pageB q, q⟩
theorem rows_back : ∀ (ps : List (List Entry)) (r1 r2 : Bs), (∀ q ∈ ps, checkE q = 0 ∧ (pageB q).length ≤ 65536 ∧ (fstK q).length ≤ 256 ∧ (lstK q).length ≤ 256) → rowsF ps.length ((ps.map pageB).flatten ++ r1) ((ps.map idx1).flatten ++ r2) = some (ps.map rowOf)
  | [], _, _, _ => rfl
  | q :: ps, r1, r2, h => by
    obtain ⟨hc, hs, h1, h2⟩ := h q (by simp)
    have ih := rows_back ps r1 r2 (fun p hp => h p (by simp [hp]))
    have ea : ((q :: ps).map pageB).flatten ++ r1 = pageB q ++ ((ps.map pageB).flatten ++ r1) := by simp
    have ei : ((q :: ps).map idx1).flatten ++ r2 = textF (fstK q) ++ (textF (lstK q) ++ (smallF (pageB q).length ++ ((ps.map idx1).flatten ++ r2))) := by simp [idx1]
    rw [ea, ei]
    generalize hI : textF (fstK q) ++ (textF (lstK q) ++ (smallF (pageB q).length ++ ((ps.map idx1).flatten ++ r2))) = idx
    generalize hA : pageB q ++ ((ps.map pageB).flatten ++ r1) = all
    have c1 : cutF idx = (fstK q, textF (lstK q) ++ (smallF (pageB q).length ++ ((ps.map idx1).flatten ++ r2)), 0) := by rw [← hI]; exact cut_text _ (by omega)
    have c2 : cutF (cutF idx).2.1 = (lstK q, smallF (pageB q).length ++ ((ps.map idx1).flatten ++ r2), 0) := by rw [c1]; exact cut_text _ (by omega)
    have c3 : readF (cutF (cutF idx).2.1).2.1 = ((pageB q).length, (smallF (pageB q).length).length, 0) := by rw [c2]; exact read_small _ (by omega)
    have hsz : sizeR idx = (pageB q).length := by unfold sizeR; rw [c3]
    have ht : all.take (sizeR idx) = pageB q := by rw [hsz, ← hA]; exact List.take_left
    have hd : all.drop (sizeR idx) = (ps.map pageB).flatten ++ r1 := by rw [hsz, ← hA]; exact List.drop_left
    have hr : restR idx = (ps.map idx1).flatten ++ r2 := by unfold restR; rw [c3, c2]; exact List.drop_left
    have hE : readE (pageB q) = (q, 0) := read_page (by rw [make_small hc hs])
    have hb : ¬ badRow all idx := by
      rintro (x | x | x | x)
      · exact x (by rw [c1])
      · exact x (by rw [c2])
      · exact x (by rw [c3])
      · rw [c3, ← hA, List.length_append] at x
        simp only at x
        omega
    show rowsF (ps.length + 1) all idx = _
    rw [rowsF_step hb (by rw [ht, hE]), hd, hr, ih]
    simp only [Option.map_some, List.map_cons]
    congr 2
    unfold rowR rowOf
    rw [ht, hE, c2, c1]
theorem page_pos (q : List Entry) : 4 ≤ (pageB q).length := by unfold pageB; rw [List.length_append, sum4_length]; omega
theorem flat_ge {α : Type} : ∀ (ls : List (List α)), (∀ q ∈ ls, 1 ≤ q.length) → ls.length ≤ ls.flatten.length
  | [], _ => Nat.le_refl _
  | q :: ls, h => by
    have h1 := flat_ge ls (fun p hp => h p (by simp [hp]))
    have h2 := h q (by simp)
    rw [List.flatten_cons, List.length_append, List.length_cons]
    omega
theorem makeT_ok {l : List Entry} {b : Bs} (h : makeT l = (b, 0)) : checkE l = 0 ∧ ¬ l = [] ∧ b = tableB l ∧ (tableB l).length ≤ 524288 := by
  unfold makeT at h
  split at h
  · rename_i hn
    exact absurd (congrArg (·.2) h) hn
  · rename_i hc
    split at h
    · cases h
    · rename_i hne
      split at h
      · cases h
      · rename_i hl
        exact ⟨Decidable.not_not.1 hc, hne, (congrArg (·.1) h).symm, by omega⟩
theorem makeT_two {l : List Entry} (h : (makeT l).2 = 0) : makeT l = (tableB l, 0) := by
  have := makeT_ok (l := l) (b := (makeT l).1) (Prod.ext rfl h)
  exact Prod.ext this.2.2.1 h
theorem parts_table {l : List Entry} (hck : checkE l = 0) : ∀ q ∈ partF l, checkE q = 0 ∧ (pageB q).length ≤ 65536 ∧ (fstK q).length ≤ 256 ∧ (lstK q).length ≤ 256 := fun q hq => by
  obtain ⟨i, hi, rfl⟩ := List.getElem_of_mem hq
  have h1 := partF_mem hck _ hq
  have h2 := partF_keys hck _ hq
  refine ⟨?_, by omega, h2.1, h2.2⟩
  have e : l = ((partF l).take i).flatten ++ (partF l)[i] ++ ((partF l).drop (i + 1)).flatten := by
    conv => lhs; rw [← part_flat l, ← List.take_append_drop i (partF l), List.drop_eq_getElem_cons hi]
    rw [List.flatten_append, List.flatten_cons, List.append_assoc]
  rw [e] at hck
  exact check_mid hck
/-- what a table's bytes come apart to -/
structure Apart9 (l : List Entry) (b : Bs) : Prop where
  sum : okSum b
  n : nB b = (pagesB (partF l)).length
  k : kB b = (indexB (partF l)).length
  inn : inB b = pagesB (partF l) ++ indexB (partF l) ++ sieveB l
  all : allB b = pagesB (partF l)
  idx : idxB b = indexB (partF l)
  sieve : sieveOf b = sieveB l
theorem table_apart {l : List Entry} {b : Bs} (h : makeT l = (b, 0)) : Apart9 l b := by
  obtain ⟨hck, hne, rfl, hle⟩ := makeT_ok h
  have hpl := pages_le hck
  have hil := index_le hck
  have hsl := (sieve_ok hck hne).2
  have hpre : (preT l).length = (pagesB (partF l)).length + (indexB (partF l)).length + (sieveB l).length + 24 := by unfold preT; simp only [List.length_append, put8_length]
  have hlen : (tableB l).length = (preT l).length + 4 := by unfold tableB; rw [List.length_append, sum4_length]
  have e : tableB l = (pagesB (partF l) ++ indexB (partF l) ++ sieveB l) ++ (put8 (pagesB (partF l)).length ++ (put8 (indexB (partF l)).length ++ (put8 (sieveB l).length ++ sum4 (preT l)))) := by
    conv => lhs; unfold tableB
    conv => lhs; lhs; unfold preT
    simp only [List.append_assoc]
  have hin : inB (tableB l) = pagesB (partF l) ++ indexB (partF l) ++ sieveB l := by
    unfold inB
    rw [show (tableB l).length - 28 = (pagesB (partF l) ++ indexB (partF l) ++ sieveB l).length by simp only [List.length_append]; omega]
    conv => lhs; rw [e]
    exact List.take_left
  have hend : endB (tableB l) = put8 (pagesB (partF l)).length ++ (put8 (indexB (partF l)).length ++ (put8 (sieveB l).length ++ sum4 (preT l))) := by
    unfold endB
    rw [show (tableB l).length - 28 = (pagesB (partF l) ++ indexB (partF l) ++ sieveB l).length by simp only [List.length_append]; omega]
    conv => lhs; rw [e]
    exact List.drop_left
  have hn : nB (tableB l) = (pagesB (partF l)).length := by
    unfold nB
    rw [hend, List.take_left' (put8_length _)]
    exact get8_put (by omega)
  have hk : kB (tableB l) = (indexB (partF l)).length := by
    unfold kB
    rw [hend, ← List.append_assoc, List.take_left' (by rw [List.length_append, put8_length, put8_length]), List.drop_left' (put8_length _)]
    exact get8_put (by omega)
  refine ⟨⟨by omega, hle, ?_⟩, hn, hk, hin, ?_, ?_, ?_⟩
  · rw [show (tableB l).length - 4 = (preT l).length by omega]
    have e : tableB l = preT l ++ sum4 (preT l) := rfl
    rw [e, List.drop_left, List.take_left]
  · unfold allB
    rw [hin, hn, List.append_assoc]
    exact List.take_left
  · unfold idxB
    rw [hin, hn, hk, List.take_left' (by rw [List.length_append]), List.drop_left]
  · unfold sieveOf
    rw [hin, hn, hk, List.drop_left' (by rw [List.length_append])]
theorem rows_table {l : List Entry} {b : Bs} (h : makeT l = (b, 0)) : rowsB b = some ((partF l).map rowOf) ∧ (readF (idxB b)).2.2 = 0 ∧ (readF (idxB b)).1 = (partF l).length := by
  obtain ⟨hck, hne, hb, hle⟩ := makeT_ok h
  have A := table_apart h
  have hps : (partF l).length ≤ (pagesB (partF l)).length := by
    have := flat_ge ((partF l).map pageB) (fun q hq => by
      obtain ⟨p, _, rfl⟩ := List.mem_map.1 hq
      have := page_pos p
      omega)
    rw [List.length_map] at this
    exact this
  have hlb : (pagesB (partF l)).length ≤ b.length := by rw [hb]; unfold tableB preT; simp only [List.length_append]; omega
  have hr : readF (idxB b) = ((partF l).length, (smallF (partF l).length).length, 0) := by
    rw [A.idx]
    unfold indexB
    have hbl : b.length = (tableB l).length := by rw [hb]
    exact read_small _ (by omega)
  refine ⟨?_, by rw [hr], by rw [hr]⟩
  unfold rowsB manyR
  rw [hr, A.all, A.idx]
  show rowsF (min (partF l).length b.length) _ (List.drop (smallF (partF l).length).length (indexB (partF l))) = _
  rw [show min (partF l).length b.length = (partF l).length by omega]
  have hd : List.drop (smallF (partF l).length).length (indexB (partF l)) = ((partF l).map idx1).flatten := by unfold indexB; exact List.drop_left
  rw [hd]
  have := rows_back (partF l) [] [] (parts_table hck)
  rw [List.append_nil, List.append_nil] at this
  exact this
theorem ents_rows (ps : List (List Entry)) : entsR (ps.map rowOf) = ps.flatten := by unfold entsR; rw [List.map_map]; congr 1; exact List.map_id ps
/-- a table opens to its entries -/
theorem open_back {l : List Entry} {b : Bs} (h : makeT l = (b, 0)) : openF b = some ((partF l).map rowOf) := by
  have A := table_apart h
  obtain ⟨h1, h2, _⟩ := rows_table h
  rw [open_rows A.sum ?_ h2 h1, ents_rows, part_flat, h]
  · simp
  · rw [A.inn, A.n, A.k]
    simp only [List.length_append]
    omega
theorem open_iff {b : Bs} {rows : List Row} (h : openF b = some rows) : makeT (entsR rows) = (b, 0) ∧ rows = (partF (entsR rows)).map rowOf := by
  have h1 := open_made h
  exact ⟨h1, Option.some.inj (h.symm.trans (open_back h1))⟩
theorem open_none {b : Bs} (h : openF b = none) : ∀ l, makeT l ≠ (b, 0) := fun l hl => by rw [open_back hl] at h; cases h
theorem readE_few {b : Bs} (h : (readE b).2 = 0) : (readE b).1.length ≤ 4096 := by
  have hm : (makeE (readE b).1).2 = 0 ∧ (makeE (readE b).1).1 = b := by
    by_cases hb : badB b
    · unfold readE at h; rw [if_pos hb] at h; cases h
    · generalize hl : loopR (numP 4096 (b.take (b.length - 4), false)).1 [] [] (numP 4096 (b.take (b.length - 4), false)).2 = o
      cases o with
      | none => rw [readE_none hb hl] at h; cases h
      | some l =>
        rw [readE_some hb hl] at h ⊢
        split at h
        · cases h
        · rename_i hc
          rw [if_neg hc]
          exact ⟨Decidable.not_not.1 (fun hn => hc (.inl hn)), Decidable.not_not.1 (fun hn => hc (.inr hn))⟩
  exact (check_ok (make_ok2 hm.1).1).1
end table
end Go.Proofs.Ythkgadhamecnlaa
